/- RecordChecks: the law's walk. -/
import Derived.Test.YtckcdgmcoomngaaWorks8
import Derived.Test.YtckcdgmcoomngaaRefC
set_option linter.unusedVariables false
set_option linter.unusedSimpArgs false
namespace Go.Proofs.Ytckcdgmcoomngaa
open Go.RowKit
open Go.Proofs.YtckcdgmcoomngaaW.PrintWords

/-- append(v, ys...) of flat elements: v an empty row of one's own. -/
theorem app_flat {P : Program} {α : Type} {d : Kd α} {enc : α → List Value} (hf : Flat d enc) {W : World} {base n c : Nat} {e : TypeId} {ok : Nat → Prop} {A0 A : Option Addr} {c0 : Nat} {xs : List α} (t ty : TypeId) (z : Value) (bytes : Nat)
    (ht : P.underlying t = some (.slice e)) (hinfo : (P.info? e).map (fun i => (i.zero, i.size, i.bytes)) = some (some z, d.sz, bytes)) (hz : z.cells.size = d.sz) (hs0 : 0 < d.sz) (hb0 : 0 < bytes)
    (hR : d.R e W base ok (.slice A0 0 c0) []) (hC : d.C W A n xs) (hfresh : ∀ k, W.heap.size ≤ k → ok k) (hbase : base ≤ W.heap.size) (hl : n * bytes ≤ 140737488355328) :
    ∃ A1 c1 w1, (Builtin.append_ #[t, t] ty #[.slice A0 0 c0, .slice A n c]).run P W = .ok (.slice A1 n c1) w1 ∧ d.R e w1 base ok (.slice A1 n c1) xs ∧ W.grownBy w1 (Value.slice A0 0 c0).ownBlock := by
  obtain ⟨v1, w1, hr, hR1, hg, _⟩ := R_rows_run (P := P) d base t ty e z bytes ht hinfo hz hs0 hb0 (.slice A0 0 c0) [] xs A n c ok (fun _ => False) hR hC (fun x cs h => by rw [hf.K h]; exact hf.M _ _ _ _) (fun _ h => h.elim) hfresh hbase (by simpa using hl)
  obtain ⟨A3, c3, rfl⟩ := Kd.R_slice hR1
  rw [List.nil_append] at hR1
  rw [List.nil_append] at hr
  rw [show xs.length = n from hC.1] at hr hR1
  exact ⟨A3, c3, w1, hr, hR1, hg⟩
theorem set5_R {α : Type} {d : Kd α} {w : World} {base g : Nat} {e t : TypeId} {ok : Nat → Prop} {v : Value} {xs : List α} {cells : Array Value} (h : d.R e w base ok v xs) (hb : Blk w g t cells) (ht : ∀ q, q ∈ e :: d.E → q ≠ t) (v0 v1 v2 v3 v4 : Value) :
    d.R e (((((w.setCell ⟨g, 0, none⟩ v0).setCell ⟨g, 1, none⟩ v1).setCell ⟨g, 2, none⟩ v2).setCell ⟨g, 3, none⟩ v3).setCell ⟨g, 4, none⟩ v4) base ok v xs :=
  Kd.R_mono (Kd.R_far (Kd.R_far (Kd.R_far (Kd.R_far (Kd.R_far (Kd.R_types h hb ht) (p := ⟨g, 0, none⟩) (fun k hk => hk.2) v0) (p := ⟨g, 1, none⟩) (fun k hk => hk.2) v1) (p := ⟨g, 2, none⟩) (fun k hk => hk.2) v2) (p := ⟨g, 3, none⟩) (fun k hk => hk.2) v3) (p := ⟨g, 4, none⟩) (fun k hk => hk.2) v4) (fun _ hk => hk.1)
theorem set5_Fr {S : Nat → Prop} {a w : World} {g : Nat} (h : Fr S a w) (hg : a.heap.size ≤ g) (v0 v1 v2 v3 v4 : Value) :
    Fr S a (((((w.setCell ⟨g, 0, none⟩ v0).setCell ⟨g, 1, none⟩ v1).setCell ⟨g, 2, none⟩ v2).setCell ⟨g, 3, none⟩ v3).setCell ⟨g, 4, none⟩ v4) :=
  ((((h.setCell (p := ⟨g, 0, none⟩) (.inr hg) v0).setCell (p := ⟨g, 1, none⟩) (.inr hg) v1).setCell (p := ⟨g, 2, none⟩) (.inr hg) v2).setCell (p := ⟨g, 3, none⟩) (.inr hg) v3).setCell (p := ⟨g, 4, none⟩) (.inr hg) v4
set_option maxRecDepth 100000 in
set_option maxHeartbeats 8000000 in
theorem lawChecks8 (r : Rec) (Ad Ab : Option Addr) (cd cb : Nat) (w : World) (h : RecAt w r Ad Ab cd cb) (hg : RecGood r) :
    Calls Try.prog 3 #[recV r Ad Ab cd cb] w fun e w' => e = .returned (.bool true) ∧ Fr (fun _ => False) w w' := by
  have HH := Lib.hid h
  have HG := Lib.hid hg
  clear h hg
  have hF := (Fr.refl (fun _ => False) w).alloc (.cells #[.int .i64 r.1.1, .int .i64 r.1.2, .int .i64 r.2.1, .slice Ad r.2.2.1.length cd, .slice Ab r.2.2.2.length cb] 27)
  have hX := Blk.new w 27 #[.int .i64 r.1.1, .int .i64 r.1.2, .int .i64 r.2.1, .slice Ad r.2.2.1.length cd, .slice Ab r.2.2.2.length cb]
  rcases Nat.lt_or_ge 100 r.2.2.1.length with hb1 | hb1
  · have t1 : decide ((100 : Int) < (r.2.2.1.length : Int)) = true := decide_eq_true (by omega)
    clear hb1
    go_enter Try.func3, Try.ntmps3
    go_wp2_with fail
    refine (works8 _).mono ?_
    rintro e w1 ⟨rfl, hF1⟩
    go_wp2_with fail
    go_ret
    exact ⟨rfl, hF.trans hF1⟩
  · have t1 : decide ((100 : Int) < (r.2.2.1.length : Int)) = false := decide_eq_false (by omega)
    rcases Nat.lt_or_ge 100 r.2.2.2.length with hb2 | hb2
    · have t2 : decide ((100 : Int) < (r.2.2.2.length : Int)) = true := decide_eq_true (by omega)
      clear hb1 hb2
      go_enter Try.func3, Try.ntmps3
      go_wp2_with fail
      refine (works8 _).mono ?_
      rintro e w1 ⟨rfl, hF1⟩
      go_wp2_with fail
      go_ret
      exact ⟨rfl, hF.trans hF1⟩
    · have t2 : decide ((100 : Int) < (r.2.2.2.length : Int)) = false := decide_eq_false (by omega)
      have HB1 := Lib.hid hb1
      have HB2 := Lib.hid hb2
      clear hb1 hb2
      go_enter Try.func3, Try.ntmps3
      go_wp2_with fail
      clear t1 t2
      rename_i K0 hK0
      generalize w.alloc (.cells #[.int .i64 r.1.1, .int .i64 r.1.2, .int .i64 r.2.1, .slice Ad r.2.2.1.length cd, .slice Ab r.2.2.2.length cb] 27) = w1 at hF hX ⊢
      obtain ⟨x, hx⟩ : ∃ x, x = w.heap.size := ⟨_, rfl⟩
      rw [← hx] at hX ⊢
      have HX := Lib.hid hX
      have HF := Lib.hid hF
      clear hF hX hx
      have cont : ∀ (v22 v26 : Value) (A1 A2 : Option Addr) (c1 c2 g3 : Nat) (W : World), idK.R 23 W w1.heap.size (fun k => w1.heap.size ≤ k) (.slice A1 r.2.2.1.length c1) r.2.2.1 → cmdK.R 36 W w1.heap.size (fun k => w1.heap.size ≤ k) (.slice A2 r.2.2.2.length c2) r.2.2.2 →
          Blk W g3 27 #[.int .i64 r.1.1, .int .i64 r.1.2, .int .i64 r.2.1, .slice A1 r.2.2.1.length c1, .slice A2 r.2.2.2.length c2] → w1.heap.size ≤ g3 → Fr (fun _ => False) w1 W → K0 { tmps := #[recV r Ad Ab cd cb, .pointer (some ⟨x, 0, none⟩), .bool false, .pointer (some ⟨g3, 0, none⟩), undef, undef, undef, .pointer (some ⟨x, 3, none⟩), .slice Ad r.2.2.1.length cd, .int .i64 r.2.2.1.length, .bool false, .bool false, .pointer (some ⟨x, 4, none⟩), .slice Ab r.2.2.2.length cb, .int .i64 r.2.2.2.length, .bool false, .bool false, undef, .pointer (some ⟨x, 0, none⟩), .agg #[.int .i64 r.1.1, .int .i64 r.1.2], .pointer (some ⟨x, 2, none⟩), .int .i64 r.2.1, v22, .pointer (some ⟨x, 3, none⟩), .slice Ad r.2.2.1.length cd, .slice A1 r.2.2.1.length c1, v26, .pointer (some ⟨x, 4, none⟩), .slice Ab r.2.2.2.length cb, .slice A2 r.2.2.2.length c2, .agg #[.int .i64 r.1.1, .int .i64 r.1.2, .int .i64 r.2.1, .slice A1 r.2.2.1.length c1, .slice A2 r.2.2.2.length c2], undef, undef, undef, undef, undef, undef, undef, undef, undef, undef, undef, undef, undef, undef, undef, undef, undef, undef, undef, undef, undef, undef, undef, undef, undef, undef, undef, undef, undef, undef, undef, undef, undef, undef, undef, undef, undef, undef, undef, undef, undef, undef, undef, undef, undef, undef, undef, undef, undef, undef, undef, undef], defers := [] } W := by
        intro v22 v26 A1 A2 c1 c2 g3 W hR1 hR2 hB3 hg3 hFW
        have HR1 := Lib.hid hR1
        have HR2 := Lib.hid hR2
        have HB3 := Lib.hid hB3
        have HFW := Lib.hid hFW
        have HG3 := Lib.hid hg3
        have b0 := hB3.cell 0
        have b1 := hB3.cell 1
        have b2 := hB3.cell 2
        have b3 := hB3.cell 3
        have b4 := hB3.cell 4
        simp only [List.getElem?_toArray, List.getElem?_cons_zero, List.getElem?_cons_succ] at b0 b1 b2 b3 b4
        clear hR1 hR2 hB3 hg3 hFW
        refine hK0 _ _ ?_
        go_wp2_with fail
        obtain ⟨_, lc1, hC1⟩ := Kd.R_reads' HR1.out
        obtain ⟨_, lc2, hC2⟩ := Kd.R_reads' HR2.out
        have HO := Lib.hid (show RecAt W r A1 A2 c1 c2 from ⟨lc1, lc2, hC1, hC2⟩)
        clear hC1 hC2 b0 b1 b2 b3 b4
        refine (rec_copy r A1 A2 c1 c2 W HO.out (Nat.le_trans HB1.out (by omega)) (Nat.le_trans HB2.out (by omega))).mono ?_
        rintro e W2 ⟨gd, gb, rfl, hgd, hgb, hne, hBd, hBb, hF2⟩
        have F2 := Lib.hid (HFW.out.trans hF2)
        have F3 := (Fr.refl (fun _ => False) W2).alloc (.cells #[.int .i64 r.1.1, .int .i64 r.1.2, .int .i64 r.2.1, .slice (some ⟨gd, 0, none⟩) r.2.2.1.length r.2.2.1.length, .slice (some ⟨gb, 0, none⟩) r.2.2.2.length r.2.2.2.length] 27)
        have HB4 := Lib.hid (Blk.new W2 27 #[.int .i64 r.1.1, .int .i64 r.1.2, .int .i64 r.2.1, .slice (some ⟨gd, 0, none⟩) r.2.2.1.length r.2.2.1.length, .slice (some ⟨gb, 0, none⟩) r.2.2.2.length r.2.2.2.length])
        have HC := Lib.hid (show RecAt W2 r (some ⟨gd, 0, none⟩) (some ⟨gb, 0, none⟩) r.2.2.1.length r.2.2.2.length from ⟨Nat.le_refl _, Nat.le_refl _, idFlat.blk_C hBd (Nat.le_trans HB1.out (by omega)), cmdFlat.blk_C hBb (Nat.le_trans HB2.out (by omega))⟩)
        have HBD := Lib.hid hBd
        have HBB := Lib.hid hBb
        have HGD := Lib.hid hgd
        have HGB := Lib.hid hgb
        have HF2 := Lib.hid hF2
        have HF3 := Lib.hid F3
        clear hgd hgb hne hBd hBb hF2 F3
        go_wp2_with fail
        generalize eg4 : W2.heap.size = g4 at HB4 ⊢
        generalize W2.alloc (.cells #[.int .i64 r.1.1, .int .i64 r.1.2, .int .i64 r.2.1, .slice (some ⟨gd, 0, none⟩) r.2.2.1.length r.2.2.1.length, .slice (some ⟨gb, 0, none⟩) r.2.2.2.length r.2.2.2.length] 27) = W3 at HB4 HF3 ⊢
        have hX3 := (HX.out.fr F2.out (fun h => h)).fr HF3.out (fun h => h)
        have hO3 := (HB3.out.fr HF2.out (fun h => h)).fr HF3.out (fun h => h)
        obtain ⟨St, hSt⟩ : ∃ St : World → Prop, St = Fr (fun _ => False) W3 := ⟨_, rfl⟩
        have HT := Lib.hid (show ∀ w', Fr (fun _ => False) W3 w' → At St w' from fun w' h => by unfold At; rw [hSt]; exact h)
        have lift : ∀ (q : Addr) (v : Value), W3.cell? q = some v → ∀ w', At St w' → w'.cell? q = some v := fun q v hq w' h => by replace h := h.out; rw [hSt] at h; exact h.cell hq (fun h => h)
        have e0 := lift ⟨x, 0, none⟩ _ (hX3.cell 0)
        have e1 := lift ⟨x, 1, none⟩ _ (hX3.cell 1)
        have e2 := lift ⟨x, 2, none⟩ _ (hX3.cell 2)
        have e3 := lift ⟨x, 3, none⟩ _ (hX3.cell 3)
        have e4 := lift ⟨x, 4, none⟩ _ (hX3.cell 4)
        have f0 := lift ⟨g3, 0, none⟩ _ (hO3.cell 0)
        have f1 := lift ⟨g3, 1, none⟩ _ (hO3.cell 1)
        have f2 := lift ⟨g3, 2, none⟩ _ (hO3.cell 2)
        have f3 := lift ⟨g3, 3, none⟩ _ (hO3.cell 3)
        have f4 := lift ⟨g3, 4, none⟩ _ (hO3.cell 4)
        have h0 := lift ⟨g4, 0, none⟩ _ (HB4.out.cell 0)
        have h1 := lift ⟨g4, 1, none⟩ _ (HB4.out.cell 1)
        have h2 := lift ⟨g4, 2, none⟩ _ (HB4.out.cell 2)
        have h3 := lift ⟨g4, 3, none⟩ _ (HB4.out.cell 3)
        have h4 := lift ⟨g4, 4, none⟩ _ (HB4.out.cell 4)
        have HE4 := Lib.hid eg4
        have hT0 := HT.out W3.drew (Fr.refl _ _).drew
        have HO3 := Lib.hid hO3
        have HX3 := Lib.hid hX3
        have tw : IntKind.i64.wrap (1 + (r.2.2.1.length : Int)) = 1 + (r.2.2.1.length : Int) := wrap_in _ (by omega) (by have := HB1.out; omega)
        have FW3 := Lib.hid (F2.out.trans HF3.out)
        have FA := Lib.hid ((HFW.out.trans HF2.out).trans HF3.out)
        clear hSt lift hX3 hO3 eg4 lc1 lc2
        refine rt_start [] (At St) 20 (by kernel_rfl) rfl ?_
        refine rt_take 0 (v := ?_) rfl (by kernel_rfl) (by kernel_rfl) (by kernel_rfl) (by kernel_rfl) (fun _ _ _ h => h) (by rfl) (by first | assumption | exact HS0 _ rfl | exact HT.out _ (by repeat (first | exact Fr.refl _ _ | apply Fr.drew | refine Fr.alloc ?_ _))) ?_ ?_
        rotate_left 1
        · intro w hSw; go_simp <;> with_reducible rfl
        try simp only [Act.put, List.setIfInBounds_toArray, List.set_cons_zero, List.set_cons_succ]
        refine rt_take 1 (v := ?_) rfl (by kernel_rfl) (by kernel_rfl) (by kernel_rfl) (by kernel_rfl) (fun _ _ _ h => h) (by rfl) (by first | assumption | exact HS0 _ rfl | exact HT.out _ (by repeat (first | exact Fr.refl _ _ | apply Fr.drew | refine Fr.alloc ?_ _))) ?_ ?_
        rotate_left 1
        · intro w hSw; go_simp <;> with_reducible rfl
        try simp only [Act.put, List.setIfInBounds_toArray, List.set_cons_zero, List.set_cons_succ]
        refine rt_one 2 rfl (by kernel_rfl) (fun K hK => ?_)
        go_simp
        refine (ref_rec r r (some ⟨gd, 0, none⟩) (some ⟨gb, 0, none⟩) Ad Ab r.2.2.1.length r.2.2.2.length cd cb _ ((HC.out.fr HF3.out).fr (Fr.refl _ _).drew) (((HH.out.fr HF.out).fr FW3.out).fr (Fr.refl _ _).drew) (Nat.le_trans HB1.out (by omega)) (Nat.le_trans HB2.out (by omega)) (Nat.le_trans HB1.out (by omega)) (Nat.le_trans HB2.out (by omega)) (fun x hx => (HG.out x hx).2) (fun x hx => (HG.out x hx).2)).mono ?_
        rintro e wa ⟨rfl, hFa⟩
        rw [cdec_true (recS_refl _)]
        have Fa := Lib.hid ((Fr.refl (fun _ => False) W3).drew.trans hFa)
        have hTa := HT.out _ Fa.out
        clear hFa
        go_wp2_with fail
        refine hK.out (At St) _ _ (fun _ h => h) (fun _ => by (assumption)) ?_
        clear hK K
        try simp only [Act.put, List.setIfInBounds_toArray, List.set_cons_zero, List.set_cons_succ]
        refine rt_free 3 (v := ?_) rfl (by kernel_rfl) (by kernel_rfl) (by kernel_rfl) (by kernel_rfl) (fun _ _ _ h => h) (by rfl) (fun _ => by first | assumption | exact HS0 _ rfl | exact HT.out _ (by repeat (first | exact Fr.refl _ _ | apply Fr.drew | refine Fr.alloc ?_ _))) ?_ ?_
        rotate_left 1
        · intro w; go_simp <;> with_reducible rfl
        try simp only [Act.put, List.setIfInBounds_toArray, List.set_cons_zero, List.set_cons_succ]
        refine rt_free 4 (v := ?_) rfl (by kernel_rfl) (by kernel_rfl) (by kernel_rfl) (by kernel_rfl) (fun _ _ _ h => h) (by rfl) (fun _ => by first | assumption | exact HS0 _ rfl | exact HT.out _ (by repeat (first | exact Fr.refl _ _ | apply Fr.drew | refine Fr.alloc ?_ _))) ?_ ?_
        rotate_left 1
        · intro w; go_simp <;> with_reducible rfl
        try simp only [Act.put, List.setIfInBounds_toArray, List.set_cons_zero, List.set_cons_succ]
        refine rt_take 5 (v := ?_) rfl (by kernel_rfl) (by kernel_rfl) (by kernel_rfl) (by kernel_rfl) (fun _ _ _ h => h) (by rfl) (by first | assumption | exact HS0 _ rfl | exact HT.out _ (by repeat (first | exact Fr.refl _ _ | apply Fr.drew | refine Fr.alloc ?_ _))) ?_ ?_
        rotate_left 1
        · intro w hSw; go_simp <;> with_reducible rfl
        try simp only [Act.put, List.setIfInBounds_toArray, List.set_cons_zero, List.set_cons_succ]
        refine rt_take 7 (v := ?_) rfl (by kernel_rfl) (by kernel_rfl) (by kernel_rfl) (by kernel_rfl) (fun _ _ _ h => h) (by rfl) (by first | assumption | exact HS0 _ rfl | exact HT.out _ (by repeat (first | exact Fr.refl _ _ | apply Fr.drew | refine Fr.alloc ?_ _))) ?_ ?_
        rotate_left 1
        · intro w hSw; go_simp <;> with_reducible rfl
        try simp only [Act.put, List.setIfInBounds_toArray, List.set_cons_zero, List.set_cons_succ]
        refine rt_one 6 rfl (by kernel_rfl) (fun K hK => ?_)
        go_simp
        refine (rec_check r A1 A2 c1 c2 _ (((HO.out.fr HF2.out).fr HF3.out).fr Fa.out) HG.out).mono ?_
        rintro e wb ⟨rfl, hFb⟩
        have Fb := Lib.hid (Fa.out.trans hFb)
        have hTb := HT.out _ Fb.out
        clear hFb
        go_wp2_with fail
        refine hK.out (At St) _ _ (fun _ h => h) (fun _ => by (assumption)) ?_
        clear hK K
        try simp only [Act.put, List.setIfInBounds_toArray, List.set_cons_zero, List.set_cons_succ]
        refine rt_one 8 rfl (by kernel_rfl) (fun K hK => ?_)
        go_simp
        refine (ref_check r Ad Ab cd cb _ (((HH.out.fr HF.out).fr FW3.out).fr Fb.out) HG.out).mono ?_
        rintro e wc ⟨rfl, hFc⟩
        have Fc := Lib.hid (Fb.out.trans hFc)
        have hTc := HT.out _ Fc.out
        clear hFc
        go_wp2_with fail
        refine hK.out (At St) _ _ (fun _ h => h) (fun _ => by (assumption)) ?_
        clear hK K
        try simp only [Act.put, List.setIfInBounds_toArray, List.set_cons_zero, List.set_cons_succ]
        refine rt_free 9 (v := ?_) rfl (by kernel_rfl) (by kernel_rfl) (by kernel_rfl) (by kernel_rfl) (fun _ _ _ h => h) (by rfl) (fun _ => by first | assumption | exact HS0 _ rfl | exact HT.out _ (by repeat (first | exact Fr.refl _ _ | apply Fr.drew | refine Fr.alloc ?_ _))) ?_ ?_
        rotate_left 1
        · intro w; go_simp <;> with_reducible rfl
        try simp only [Act.put, List.setIfInBounds_toArray, List.set_cons_zero, List.set_cons_succ]
        refine rt_free 10 (v := ?_) rfl (by kernel_rfl) (by kernel_rfl) (by kernel_rfl) (by kernel_rfl) (fun _ _ _ h => h) (by rfl) (fun _ => by first | assumption | exact HS0 _ rfl | exact HT.out _ (by repeat (first | exact Fr.refl _ _ | apply Fr.drew | refine Fr.alloc ?_ _))) ?_ ?_
        rotate_left 1
        · intro w; go_simp <;> with_reducible rfl
        try simp only [Act.put, List.setIfInBounds_toArray, List.set_cons_zero, List.set_cons_succ]
        refine rt_free 11 (v := ?_) rfl (by kernel_rfl) (by kernel_rfl) (by kernel_rfl) (by kernel_rfl) (fun _ _ _ h => h) (by rfl) (fun _ => by first | assumption | exact HS0 _ rfl | exact HT.out _ (by repeat (first | exact Fr.refl _ _ | apply Fr.drew | refine Fr.alloc ?_ _))) ?_ ?_
        rotate_left 1
        · intro w; go_simp <;> with_reducible rfl
        try simp only [Act.put, List.setIfInBounds_toArray, List.set_cons_zero, List.set_cons_succ]
        refine rt_take 12 (v := ?_) rfl (by kernel_rfl) (by kernel_rfl) (by kernel_rfl) (by kernel_rfl) (fun _ _ _ h => h) (by rfl) (by first | assumption | exact HS0 _ rfl | exact HT.out _ (by repeat (first | exact Fr.refl _ _ | apply Fr.drew | refine Fr.alloc ?_ _))) ?_ ?_
        rotate_left 1
        · intro w hSw; go_simp <;> with_reducible rfl
        try simp only [Act.put, List.setIfInBounds_toArray, List.set_cons_zero, List.set_cons_succ]
        refine rt_free 14 (v := ?_) rfl (by kernel_rfl) (by kernel_rfl) (by kernel_rfl) (by kernel_rfl) (fun _ _ _ h => h) (by rfl) (fun _ => by first | assumption | exact HS0 _ rfl | exact HT.out _ (by repeat (first | exact Fr.refl _ _ | apply Fr.drew | refine Fr.alloc ?_ _))) ?_ ?_
        rotate_left 1
        · intro w; go_simp <;> with_reducible rfl
        try simp only [Act.put, List.setIfInBounds_toArray, List.set_cons_zero, List.set_cons_succ]
        refine rt_take 15 (v := ?_) rfl (by kernel_rfl) (by kernel_rfl) (by kernel_rfl) (by kernel_rfl) (fun _ _ _ h => h) (by rfl) (by first | assumption | exact HS0 _ rfl | exact HT.out _ (by repeat (first | exact Fr.refl _ _ | apply Fr.drew | refine Fr.alloc ?_ _))) ?_ ?_
        rotate_left 1
        · intro w hSw; go_simp <;> with_reducible rfl
        try simp only [Act.put, List.setIfInBounds_toArray, List.set_cons_zero, List.set_cons_succ]
        refine rt_free 16 (v := ?_) rfl (by kernel_rfl) (by kernel_rfl) (by kernel_rfl) (by kernel_rfl) (fun _ _ _ h => h) (by rfl) (fun _ => by first | assumption | exact HS0 _ rfl | exact HT.out _ (by repeat (first | exact Fr.refl _ _ | apply Fr.drew | refine Fr.alloc ?_ _))) ?_ ?_
        rotate_left 1
        · intro w; go_simp <;> with_reducible rfl
        try simp only [Act.put, List.setIfInBounds_toArray, List.set_cons_zero, List.set_cons_succ]
        refine rt_free 17 (v := ?_) rfl (by kernel_rfl) (by kernel_rfl) (by kernel_rfl) (by kernel_rfl) (fun _ _ _ h => h) (by rfl) (fun _ => by first | assumption | exact HS0 _ rfl | exact HT.out _ (by repeat (first | exact Fr.refl _ _ | apply Fr.drew | refine Fr.alloc ?_ _))) ?_ ?_
        rotate_left 1
        · intro w; go_simp <;> with_reducible rfl
        try simp only [Act.put, List.setIfInBounds_toArray, List.set_cons_zero, List.set_cons_succ]
        refine rt_one 13 rfl (by kernel_rfl) (fun K hK => ?_)
        go_simp
        refine (rec_cost r Ad Ab cd cb _ (Nat.le_trans HB1.out (by omega))).mono ?_
        rintro e wd ⟨rfl, hFd⟩
        have Fd := Lib.hid (Fc.out.trans hFd)
        have hTd := HT.out _ Fd.out
        clear hFd
        go_wp2_with fail
        refine hK.out (At St) _ _ (fun _ h => h) (fun _ => by (assumption)) ?_
        clear hK K
        try simp only [Act.put, List.setIfInBounds_toArray, List.set_cons_zero, List.set_cons_succ]
        refine rt_free 18 (v := ?_) rfl (by kernel_rfl) (by kernel_rfl) (by kernel_rfl) (by kernel_rfl) (fun _ _ _ h => h) (by rfl) (fun _ => by first | assumption | exact HS0 _ rfl | exact HT.out _ (by repeat (first | exact Fr.refl _ _ | apply Fr.drew | refine Fr.alloc ?_ _))) ?_ ?_
        rotate_left 1
        · intro w; go_simp <;> with_reducible rfl
        try simp only [Act.put, List.setIfInBounds_toArray, List.set_cons_zero, List.set_cons_succ]
        refine rt_free 19 (v := ?_) rfl (by kernel_rfl) (by kernel_rfl) (by kernel_rfl) (by kernel_rfl) (fun _ _ _ h => h) (by rfl) (fun _ => by first | assumption | exact HS0 _ rfl | exact HT.out _ (by repeat (first | exact Fr.refl _ _ | apply Fr.drew | refine Fr.alloc ?_ _))) ?_ ?_
        rotate_left 1
        · intro w; go_simp <;> with_reducible rfl
        try simp only [Act.put, List.setIfInBounds_toArray, List.set_cons_zero, List.set_cons_succ]
        refine rt_done (by kernel_rfl) ?_
        go_wp2_with fail
        have SA : ∀ b, A1 = some ⟨b, 0, none⟩ → w1.heap.size ≤ b ∧ b < W.heap.size ∧ b ≠ g3 := fun b hb => by
          have h1 := Kd.R_base HR1.out b (by rw [hb]; rfl)
          have h2 := Kd.R_lt HR1.out b (by rw [hb]; rfl)
          exact ⟨h1, h2, fun e => Kd.R_ne HR1.out HB3.out (by decide) (by rw [hb, e]; rfl)⟩
        have SB : ∀ b, A2 = some ⟨b, 0, none⟩ → w1.heap.size ≤ b ∧ b < W.heap.size ∧ b ≠ g3 := fun b hb => by
          have h1 := Kd.R_base HR2.out b (by rw [hb]; rfl)
          have h2 := Kd.R_lt HR2.out b (by rw [hb]; rfl)
          exact ⟨h1, h2, fun e => Kd.R_ne HR2.out HB3.out (by decide) (by rw [hb, e]; rfl)⟩
        have FWd := Lib.hid ((HF2.out.trans HF3.out).trans Fd.out)
        have OA : r.2.2.1.length = 0 ∨ ∃ b cells, A1 = some ⟨b, 0, none⟩ ∧ Blk wd b 23 cells ∧ r.2.2.1.length * 2 ≤ cells.size := by
          obtain ⟨inner, ho⟩ := Kd.R_own HR1.out
          rcases ho.2 with ⟨_, h0⟩ | ⟨b, cap, cur, hv, _, hg, hcap, _, hsz, _⟩
          · exact .inl h0
          · injection hv with hv _ _
            refine .inr ⟨b, cur, hv, FWd.out.get hg (fun h => h), ?_⟩
            rw [hsz]
            exact Nat.mul_le_mul_right 2 hcap
        have OB : r.2.2.2.length = 0 ∨ ∃ b cells, A2 = some ⟨b, 0, none⟩ ∧ Blk wd b 36 cells ∧ r.2.2.2.length * 3 ≤ cells.size := by
          obtain ⟨inner, ho⟩ := Kd.R_own HR2.out
          rcases ho.2 with ⟨_, h0⟩ | ⟨b, cap, cur, hv, _, hg, hcap, _, hsz, _⟩
          · exact .inl h0
          · injection hv with hv _ _
            refine .inr ⟨b, cur, hv, FWd.out.get hg (fun h => h), ?_⟩
            rw [hsz]
            exact Nat.mul_le_mul_right 3 hcap
        have TA : ∀ b, A1 = some ⟨b, 0, none⟩ → A2 ≠ some ⟨b, 0, none⟩ := fun b hb hb2 => by
          obtain ⟨inner, ho⟩ := Kd.R_own HR1.out
          obtain ⟨inner2, ho2⟩ := Kd.R_own HR2.out
          obtain ⟨cs, h1⟩ := own_typed ho b (by rw [hb]; rfl)
          obtain ⟨cs2, h2⟩ := own_typed ho2 b (by rw [hb2]; rfl)
          exact Blk.ne_ (show Blk W b 23 cs from h1) (show Blk W b 36 cs2 from h2) (by decide) rfl
        have HTA := Lib.hid TA
        clear TA
        have HSA := Lib.hid SA
        have HSB := Lib.hid SB
        have HOA := Lib.hid OA
        have HOB := Lib.hid OB
        obtain ⟨nd, hnd⟩ : ∃ nd, nd = r.2.2.1.length := ⟨_, rfl⟩
        have HND := Lib.hid hnd
        clear SA SB OA OB e0 e1 e2 e3 e4 f0 f1 f2 f3 f4 h0 h1 h2 h3 h4 hT0 hTa hTb hTc hTd tw hnd
        go_loopw [5] (fun i wr => ∃ k : Nat, k ≤ r.2.2.1.length ∧ i = .int .i64 k ∧ (r.2.2.1.length = 0 ∨ ∃ b cells, A1 = some ⟨b, 0, none⟩ ∧ Blk wr b 23 cells ∧ r.2.2.1.length * 2 ≤ cells.size) ∧ Fr (fun b => A1 = some ⟨b, 0, none⟩) wd wr) (fun i _ => r.2.2.1.length - (intOf i).toNat)
        case atStart => exact ⟨0, Nat.zero_le _, rfl, HOA.out, Fr.refl _ _⟩
        case round =>
          obtain ⟨k, hk, rfl, hO, hGr⟩ := hrel
          have HOr := Lib.hid hO
          have HGr := Lib.hid hGr
          have hOwn := (HO3.out.fr Fd.out (fun h => h)).fr hGr (fun e => (HSA.out _ e).2.2 rfl)
          have o3 := hOwn.cell 3
          have o4 := hOwn.cell 4
          simp only [List.getElem?_toArray, List.getElem?_cons_zero, List.getElem?_cons_succ] at o3 o4
          clear hO hGr hOwn
          rcases Nat.lt_or_ge k r.2.2.1.length with hlt | hge
          · obtain ⟨b, cells, rfl, hB, hsz⟩ := HOr.out.resolve_left (by omega)
            have c0 := hB.cell (k * 2)
            have c1' := hB.cell (k * 2 + 1)
            have ff := hB.frozen
            obtain ⟨u0, hu0⟩ : ∃ u, cells[k * 2]? = some u := ⟨_, Array.getElem?_eq_getElem (by omega)⟩
            obtain ⟨u1, hu1⟩ : ∃ u, cells[k * 2 + 1]? = some u := ⟨_, Array.getElem?_eq_getElem (by omega)⟩
            rw [hu0] at c0
            rw [hu1] at c1'
            clear hu0 hu1
            have HBr := Lib.hid hB
            have HSZ := Lib.hid hsz
            have k100 : k < 100 := by have := HB1.out; omega
            clear hB hsz HOA HOr
            go_wp2_with fail
            go_roundw
            case rel =>
              refine ⟨k + 1, by omega, by go_num, .inr ⟨b, _, rfl, (HBr.out.set_ (k * 2) (.int .i64 (-7))).set_ (k * 2 + 1) (.int .i64 0), ?_⟩, (HGr.out.setCell (p := ⟨b, k * 2, none⟩) (.inl rfl) _).setCell (p := ⟨b, k * 2 + 1, none⟩) (.inl rfl) _⟩
              have := HSZ.out
              simpa using this
            case measure => simp [intOf]; omega
          · have tkk : decide (k < r.2.2.1.length) = false := decide_eq_false (by omega)
            clear hk hge
            go_wp2_with fail
            have OBr : r.2.2.2.length = 0 ∨ ∃ b cells, A2 = some ⟨b, 0, none⟩ ∧ Blk wr b 36 cells ∧ r.2.2.2.length * 3 ≤ cells.size := by
              rcases HOB.out with h0 | ⟨b, cells, hb, hB, hsz⟩
              · exact .inl h0
              · exact .inr ⟨b, cells, hb, hB.fr HGr.out (fun e => HTA.out b e hb), hsz⟩
            have HOBr := Lib.hid OBr
            clear OBr o3 o4 tkk HOB HOA HOr
            go_loopw [6] (fun i ws => ∃ k : Nat, k ≤ r.2.2.2.length ∧ i = .int .i64 k ∧ (r.2.2.2.length = 0 ∨ ∃ b cells, A2 = some ⟨b, 0, none⟩ ∧ Blk ws b 36 cells ∧ r.2.2.2.length * 3 ≤ cells.size) ∧ Fr (fun b => A2 = some ⟨b, 0, none⟩) wr ws) (fun i _ => r.2.2.2.length - (intOf i).toNat)
            case atStart => exact ⟨0, Nat.zero_le _, rfl, HOBr.out, Fr.refl _ _⟩
            case round =>
              obtain ⟨j, hj, rfl, hO, hGs⟩ := hrel
              have HOs := Lib.hid hO
              have HGs := Lib.hid hGs
              have hOwn := ((HO3.out.fr Fd.out (fun h => h)).fr HGr.out (fun e => (HSA.out _ e).2.2 rfl)).fr hGs (fun e => (HSB.out _ e).2.2 rfl)
              have o4 := hOwn.cell 4
              simp only [List.getElem?_toArray, List.getElem?_cons_zero, List.getElem?_cons_succ] at o4
              clear hO hGs hOwn
              rcases Nat.lt_or_ge j r.2.2.2.length with hlt | hge
              · obtain ⟨b, cells, rfl, hB, hsz⟩ := HOs.out.resolve_left (by omega)
                have c0 := hB.cell (j * 3)
                have c1' := hB.cell (j * 3 + 1)
                have c2' := hB.cell (j * 3 + 1 + 1)
                have ff := hB.frozen
                obtain ⟨u0, hu0⟩ : ∃ u, cells[j * 3]? = some u := ⟨_, Array.getElem?_eq_getElem (by omega)⟩
                obtain ⟨u1, hu1⟩ : ∃ u, cells[j * 3 + 1]? = some u := ⟨_, Array.getElem?_eq_getElem (by omega)⟩
                obtain ⟨u2, hu2⟩ : ∃ u, cells[j * 3 + 1 + 1]? = some u := ⟨_, Array.getElem?_eq_getElem (by omega)⟩
                rw [hu0] at c0
                rw [hu1] at c1'
                rw [hu2] at c2'
                clear hu0 hu1 hu2
                have HBs := Lib.hid hB
                have HSZ := Lib.hid hsz
                have k100 : j < 100 := by have := HB2.out; omega
                clear hB hsz HOBr HOs
                go_wp2_with fail
                go_roundw
                case rel =>
                  refine ⟨j + 1, by omega, by go_num, .inr ⟨b, _, rfl, ((HBs.out.set_ (j * 3) (.int .i64 0)).set_ (j * 3 + 1) (.string ⟨#[63]⟩)).set_ (j * 3 + 1 + 1) (.float .f64 0), ?_⟩, ((HGs.out.setCell (p := ⟨b, j * 3, none⟩) (.inl rfl) _).setCell (p := ⟨b, j * 3 + 1, none⟩) (.inl rfl) _).setCell (p := ⟨b, j * 3 + 1 + 1, none⟩) (.inl rfl) _⟩
                  have := HSZ.out
                  simpa using this
                case measure => simp [intOf]; omega
              · have tjj : decide (j < r.2.2.2.length) = false := decide_eq_false (by omega)
                have xlt := HX.out.lt
                have hW2 := HF2.out.size
                have g4e := HE4.out
                have gdl := HGD.out
                have gbl := HGB.out
                have nA : ∀ b, A1 = some ⟨b, 0, none⟩ → b ≠ x ∧ b ≠ g4 ∧ b ≠ gd ∧ b ≠ gb := fun b hb => by have := HSA.out b hb; omega
                have nB : ∀ b, A2 = some ⟨b, 0, none⟩ → b ≠ x ∧ b ≠ g4 ∧ b ≠ gd ∧ b ≠ gb := fun b hb => by have := HSB.out b hb; omega
                have X5 := ((HX3.out.fr Fd.out (fun h => h)).fr HGr.out (fun e => (nA _ e).1 rfl)).fr HGs.out (fun e => (nB _ e).1 rfl)
                have C5 := ((HB4.out.fr Fd.out (fun h => h)).fr HGr.out (fun e => (nA _ e).2.1 rfl)).fr HGs.out (fun e => (nB _ e).2.1 rfl)
                have D5 := (((HBD.out.fr HF3.out (fun h => h)).fr Fd.out (fun h => h)).fr HGr.out (fun e => (nA _ e).2.2.1 rfl)).fr HGs.out (fun e => (nB _ e).2.2.1 rfl)
                have B5 := (((HBB.out.fr HF3.out (fun h => h)).fr Fd.out (fun h => h)).fr HGr.out (fun e => (nA _ e).2.2.2 rfl)).fr HGs.out (fun e => (nB _ e).2.2.2 rfl)
                have R5 : RecAt wr r (some ⟨gd, 0, none⟩) (some ⟨gb, 0, none⟩) r.2.2.1.length r.2.2.2.length := ⟨Nat.le_refl _, Nat.le_refl _, idFlat.blk_C D5 (Nat.le_trans HB1.out (by omega)), cmdFlat.blk_C B5 (Nat.le_trans HB2.out (by omega))⟩
                have hw1 := HF.out.size
                have F5 : Fr (fun _ => False) w wr := (((HF.out.trans FA.out).trans Fd.out).trans' HGr.out (fun i hi e => by have := (HSA.out i e).1; omega)).trans' HGs.out (fun i hi e => by have := (HSB.out i e).1; omega)
                have HR5 := Lib.hid R5
                have HF5 := Lib.hid F5
                have y0 := X5.cell 0
                have y1 := X5.cell 1
                have y2 := X5.cell 2
                have y3 := X5.cell 3
                have y4 := X5.cell 4
                have z0 := C5.cell 0
                have z1 := C5.cell 1
                have z2 := C5.cell 2
                have z3 := C5.cell 3
                have z4 := C5.cell 4
                simp only [List.getElem?_toArray, List.getElem?_cons_zero, List.getElem?_cons_succ] at y0 y1 y2 y3 y4 z0 z1 z2 z3 z4
                clear hj hge X5 C5 D5 B5 R5 F5 nA nB xlt hW2 g4e gdl gbl hw1
                go_wp2_with fail
                refine (ref_rec r r (some ⟨gd, 0, none⟩) (some ⟨gb, 0, none⟩) Ad Ab r.2.2.1.length r.2.2.2.length cd cb wr HR5.out (HH.out.fr HF5.out) (Nat.le_trans HB1.out (by omega)) (Nat.le_trans HB2.out (by omega)) (Nat.le_trans HB1.out (by omega)) (Nat.le_trans HB2.out (by omega)) (fun x hx => (HG.out x hx).2) (fun x hx => (HG.out x hx).2)).mono ?_
                rintro e w6 ⟨rfl, hF6⟩
                rw [cdec_true (recS_refl _)]
                clear y0 y1 y2 y3 y4 z0 z1 z2 z3 z4 o4 tjj
                go_wp2_with fail
                refine (works8 _).mono ?_
                rintro e w7 ⟨rfl, hF7⟩
                go_wp2_with fail
                go_ret
                exact ⟨rfl, (HF5.out.trans hF6).trans hF7⟩
      have HCi := Lib.hid (HH.out.fr HF.out).deps
      have HCc := Lib.hid (HH.out.fr HF.out).batch
      have hBg := HX.out.drew
      obtain ⟨St, hSt⟩ : ∃ St : World → Prop, St = Fr (fun _ => False) w1 := ⟨_, rfl⟩
      have HT := Lib.hid (show ∀ w', Fr (fun _ => False) w1 w' → At St w' from fun w' h => by unfold At; rw [hSt]; exact h)
      have lift : ∀ (q : Addr) (v : Value), w1.cell? q = some v → ∀ w', At St w' → w'.cell? q = some v := fun q v hq w' h => by replace h := h.out; rw [hSt] at h; exact h.cell hq (fun h => h)
      have e0 := lift ⟨x, 0, none⟩ _ (HX.out.cell 0)
      have e1 := lift ⟨x, 1, none⟩ _ (HX.out.cell 1)
      have e2 := lift ⟨x, 2, none⟩ _ (HX.out.cell 2)
      have e3 := lift ⟨x, 3, none⟩ _ (HX.out.cell 3)
      have e4 := lift ⟨x, 4, none⟩ _ (HX.out.cell 4)
      have hFr := (Fr.refl (fun _ => False) w1).drew
      have hT0 := HT.out _ hFr
      have hRi := Kd.R_nil idK 23 w1.drew w1.heap.size (fun k => w1.heap.size ≤ k)
      have hRc := Kd.R_nil cmdK 36 w1.drew w1.heap.size (fun k => w1.heap.size ≤ k)
      clear hSt lift
      refine rt_start [14] (At St) 15 (by kernel_rfl) rfl ?_
      generalize w1.drew = Wn at hFr hRi hRc hBg hT0 ⊢
      refine rt_free 0 (v := ?_) rfl (by kernel_rfl) (by kernel_rfl) (by kernel_rfl) (by kernel_rfl) (fun _ _ _ h => h) (by rfl) (fun _ => by first | assumption | exact HS0 _ rfl | exact HT.out _ (by repeat (first | exact Fr.refl _ _ | apply Fr.drew | refine Fr.alloc ?_ _))) ?_ ?_
      rotate_left 1
      · intro w; go_simp <;> with_reducible rfl
      try simp only [Act.put, List.setIfInBounds_toArray, List.set_cons_zero, List.set_cons_succ]
      refine rt_take 1 (v := ?_) rfl (by kernel_rfl) (by kernel_rfl) (by kernel_rfl) (by kernel_rfl) (fun _ _ _ h => h) (by rfl) (by first | assumption | exact HS0 _ rfl | exact HT.out _ (by repeat (first | exact Fr.refl _ _ | apply Fr.drew | refine Fr.alloc ?_ _))) ?_ ?_
      rotate_left 1
      · intro w hSw; go_simp <;> with_reducible rfl
      try simp only [Act.put, List.setIfInBounds_toArray, List.set_cons_zero, List.set_cons_succ]
      refine rt_free 2 (v := ?_) rfl (by kernel_rfl) (by kernel_rfl) (by kernel_rfl) (by kernel_rfl) (fun _ _ _ h => h) (by rfl) (fun _ => by first | assumption | exact HS0 _ rfl | exact HT.out _ (by repeat (first | exact Fr.refl _ _ | apply Fr.drew | refine Fr.alloc ?_ _))) ?_ ?_
      rotate_left 1
      · intro w; go_simp <;> with_reducible rfl
      try simp only [Act.put, List.setIfInBounds_toArray, List.set_cons_zero, List.set_cons_succ]
      refine rt_take 3 (v := ?_) rfl (by kernel_rfl) (by kernel_rfl) (by kernel_rfl) (by kernel_rfl) (fun _ _ _ h => h) (by rfl) (by first | assumption | exact HS0 _ rfl | exact HT.out _ (by repeat (first | exact Fr.refl _ _ | apply Fr.drew | refine Fr.alloc ?_ _))) ?_ ?_
      rotate_left 1
      · intro w hSw; go_simp <;> with_reducible rfl
      try simp only [Act.put, List.setIfInBounds_toArray, List.set_cons_zero, List.set_cons_succ]
      refine rt_free 5 (v := ?_) rfl (by kernel_rfl) (by kernel_rfl) (by kernel_rfl) (by kernel_rfl) (fun _ _ _ h => h) (by rfl) (fun _ => by first | assumption | exact HS0 _ rfl | exact HT.out _ (by repeat (first | exact Fr.refl _ _ | apply Fr.drew | refine Fr.alloc ?_ _))) ?_ ?_
      rotate_left 1
      · intro w; go_simp <;> with_reducible rfl
      try simp only [Act.put, List.setIfInBounds_toArray, List.set_cons_zero, List.set_cons_succ]
      refine rt_take 6 (v := ?_) rfl (by kernel_rfl) (by kernel_rfl) (by kernel_rfl) (by kernel_rfl) (fun _ _ _ h => h) (by rfl) (by first | assumption | exact HS0 _ rfl | exact HT.out _ (by repeat (first | exact Fr.refl _ _ | apply Fr.drew | refine Fr.alloc ?_ _))) ?_ ?_
      rotate_left 1
      · intro w hSw; go_simp <;> with_reducible rfl
      try simp only [Act.put, List.setIfInBounds_toArray, List.set_cons_zero, List.set_cons_succ]
      refine rt_free 9 (v := ?_) rfl (by kernel_rfl) (by kernel_rfl) (by kernel_rfl) (by kernel_rfl) (fun _ _ _ h => h) (by rfl) (fun _ => by first | assumption | exact HS0 _ rfl | exact HT.out _ (by repeat (first | exact Fr.refl _ _ | apply Fr.drew | refine Fr.alloc ?_ _))) ?_ ?_
      rotate_left 1
      · intro w; go_simp <;> with_reducible rfl
      try simp only [Act.put, List.setIfInBounds_toArray, List.set_cons_zero, List.set_cons_succ]
      refine rt_take 10 (v := ?_) rfl (by kernel_rfl) (by kernel_rfl) (by kernel_rfl) (by kernel_rfl) (fun _ _ _ h => h) (by rfl) (by first | assumption | exact HS0 _ rfl | exact HT.out _ (by repeat (first | exact Fr.refl _ _ | apply Fr.drew | refine Fr.alloc ?_ _))) ?_ ?_
      rotate_left 1
      · intro w hSw; go_simp <;> with_reducible rfl
      try simp only [Act.put, List.setIfInBounds_toArray, List.set_cons_zero, List.set_cons_succ]
      refine rt_ready [4, 8, 13] (by kernel_rfl) (by simp) ?_
      refine AllNextt.cons rfl (fun K hK => ?_) ?_
      · skip
        go_simp
        have hn := Kd.R_mono (Kd.R_lower (R_empty idK 23 _) hFr.size) (ok' := fun k => w1.heap.size ≤ k) (fun k hk => Nat.le_trans hFr.size hk)
        replace hRc := Kd.R_alloc hRc (.cells #[] 23)
        replace hBg := Blk.alloc hBg (.cells #[] 23)
        replace hFr := hFr.alloc (.cells #[] 23)
        clear hRi
        have hRi := hn
        clear hn
        generalize Wn.heap.size = gi at hRi ⊢
        generalize World.alloc _ _ = Wn at hRi hRc hBg hFr ⊢
        have hTn := HT.out _ hFr
        refine hK.out (At St) _ _ (fun _ h => h) (fun _ => by (assumption)) ?_
        clear hK K
        try simp only [Act.put, List.setIfInBounds_toArray, List.set_cons_zero, List.set_cons_succ]
        refine rt_ready [7, 8, 13] (by kernel_rfl) (by simp) ?_
        refine AllNextt.cons rfl (fun K hK => ?_) ?_
        · skip
          obtain ⟨Ai, ci, Wn, hr, hRn, hgn⟩ := app_flat (P := Try.prog) idFlat (xs := r.2.2.1) (n := r.2.2.1.length) (c := cd) 24 24 _ 16 Try.underlying24 info_id rfl (by decide) (by decide) hRi (Kd.C_below HCi.out (hFr.below (fun _ _ h => h))) (fun k hk => Nat.le_trans hFr.size hk) hFr.size (by have := HB1.out; omega)
          refine step_builtin2 rfl rfl rfl rfl (bi_append hr) ?_
          replace hRc := Kd.R_over' hRc (Kd.R_typed hRi) (by decide) hgn
          replace hBg := blk_grown hBg hgn (Kd.R_ne hRi hBg (by decide))
          replace hFr := hFr.trans' (Fr.of_grown hgn) (fun i hi h => by have := Kd.R_base hRi i h.symm; omega)
          clear hRi
          have hRi := hRn
          clear hRn
          have hTn := HT.out _ hFr
          refine hK.out (At St) _ _ (fun _ h => h) (fun _ => by (assumption)) ?_
          clear hK K
          try simp only [Act.put, List.setIfInBounds_toArray, List.set_cons_zero, List.set_cons_succ]
          refine rt_ready [8, 13] (by kernel_rfl) (by simp) ?_
          refine AllNextt.cons rfl (fun K hK => ?_) ?_
          · skip
            go_simp
            have hn := Kd.R_mono (Kd.R_lower (R_empty cmdK 36 _) hFr.size) (ok' := fun k => w1.heap.size ≤ k) (fun k hk => Nat.le_trans hFr.size hk)
            replace hRi := Kd.R_alloc hRi (.cells #[] 36)
            replace hBg := Blk.alloc hBg (.cells #[] 36)
            replace hFr := hFr.alloc (.cells #[] 36)
            clear hRc
            have hRc := hn
            clear hn
            generalize Wn.heap.size = gi at hRc ⊢
            generalize World.alloc _ _ = Wn at hRi hRc hBg hFr ⊢
            have hTn := HT.out _ hFr
            refine hK.out (At St) _ _ (fun _ h => h) (fun _ => by (assumption)) ?_
            clear hK K
            try simp only [Act.put, List.setIfInBounds_toArray, List.set_cons_zero, List.set_cons_succ]
            refine rt_ready [11, 13] (by kernel_rfl) (by simp) ?_
            refine AllNextt.cons rfl (fun K hK => ?_) ?_
            · skip
              obtain ⟨Ac, cc, Wn, hr, hRn, hgn⟩ := app_flat (P := Try.prog) cmdFlat (xs := r.2.2.2) (n := r.2.2.2.length) (c := cb) 25 25 _ 32 Try.underlying25 info_cmd rfl (by decide) (by decide) hRc (Kd.C_below HCc.out (hFr.below (fun _ _ h => h))) (fun k hk => Nat.le_trans hFr.size hk) hFr.size (by have := HB2.out; omega)
              refine step_builtin2 rfl rfl rfl rfl (bi_append hr) ?_
              replace hRi := Kd.R_over' hRi (Kd.R_typed hRc) (by decide) hgn
              replace hBg := blk_grown hBg hgn (Kd.R_ne hRc hBg (by decide))
              replace hFr := hFr.trans' (Fr.of_grown hgn) (fun i hi h => by have := Kd.R_base hRc i h.symm; omega)
              clear hRc
              have hRc := hRn
              clear hRn
              have hTn := HT.out _ hFr
              refine hK.out (At St) _ _ (fun _ h => h) (fun _ => by (assumption)) ?_
              clear hK K
              try simp only [Act.put, List.setIfInBounds_toArray, List.set_cons_zero, List.set_cons_succ]
              refine rt_free 12 (v := ?_) rfl (by kernel_rfl) (by kernel_rfl) (by kernel_rfl) (by kernel_rfl) (fun _ _ _ h => h) (by rfl) (fun _ => by first | assumption | exact HS0 _ rfl | exact HT.out _ (by repeat (first | exact Fr.refl _ _ | apply Fr.drew | refine Fr.alloc ?_ _))) ?_ ?_
              rotate_left 1
              · intro w; go_simp <;> with_reducible rfl
              try simp only [Act.put, List.setIfInBounds_toArray, List.set_cons_zero, List.set_cons_succ]
              refine rt_one 13 rfl (by kernel_rfl) (fun K hK => ?_)
              go_simp
              clear hBg
              have hg3 := hFr.size
              have hBg := Blk.new Wn 27 #[.int .i64 0, .int .i64 0, .int .i64 0, .slice none 0 0, .slice none 0 0]
              replace hRi := Kd.R_alloc hRi (.cells #[.int .i64 0, .int .i64 0, .int .i64 0, .slice none 0 0, .slice none 0 0] 27)
              replace hRc := Kd.R_alloc hRc (.cells #[.int .i64 0, .int .i64 0, .int .i64 0, .slice none 0 0, .slice none 0 0] 27)
              replace hFr := hFr.alloc (.cells #[.int .i64 0, .int .i64 0, .int .i64 0, .slice none 0 0, .slice none 0 0] 27)
              generalize Wn.heap.size = g3 at hBg hg3 ⊢
              generalize World.alloc _ _ = Wn at hRi hRc hBg hFr ⊢
              have hTn := HT.out _ hFr
              refine hK.out (At St) _ _ (fun _ h => h) (fun _ => by (assumption)) ?_
              clear hK K
              try simp only [Act.put, List.setIfInBounds_toArray, List.set_cons_zero, List.set_cons_succ]
              refine rt_one 14 rfl (by kernel_rfl) (fun K hK => ?_)
              have b0 := Blk.cell hBg 0
              have b1 := Blk.cell hBg 1
              have b2 := Blk.cell hBg 2
              have b3 := Blk.cell hBg 3
              have b4 := Blk.cell hBg 4
              have bf := Blk.frozen hBg
              simp only [List.getElem?_toArray, List.getElem?_cons_zero, List.getElem?_cons_succ] at b0 b1 b2 b3 b4
              go_simp
              replace hRi := set5_R hRi hBg (by decide) (.int .i64 r.1.1) (.int .i64 r.1.2) (.int .i64 r.2.1) (.slice Ai r.2.2.1.length ci) (.slice Ac r.2.2.2.length cc)
              replace hRc := set5_R hRc hBg (by decide) (.int .i64 r.1.1) (.int .i64 r.1.2) (.int .i64 r.2.1) (.slice Ai r.2.2.1.length ci) (.slice Ac r.2.2.2.length cc)
              replace hFr := set5_Fr hFr hg3 (.int .i64 r.1.1) (.int .i64 r.1.2) (.int .i64 r.2.1) (.slice Ai r.2.2.1.length ci) (.slice Ac r.2.2.2.length cc)
              replace hBg := set5 hBg (v0 := .int .i64 r.1.1) (v1 := .int .i64 r.1.2) (v2 := .int .i64 r.2.1) (v3 := .slice Ai r.2.2.1.length ci) (v4 := .slice Ac r.2.2.2.length cc)
              clear b0 b1 b2 b3 b4 bf
              generalize World.setCell _ _ _ = Wn at hRi hRc hBg hFr ⊢
              refine hK.out (At St) _ _ (fun _ h => h) (late_abs (by kernel_rfl)) ?_
              clear hK K
              try simp only [Act.put, List.setIfInBounds_toArray, List.set_cons_zero, List.set_cons_succ]
              refine rt_done (by kernel_rfl) ?_
              all_goals exact cont _ _ _ _ _ _ _ _ hRi hRc hBg hg3 hFr
            refine AllNextt.cons rfl (fun K hK => ?_) ?_
            · skip
              go_simp
              clear hBg
              have hg3 := hFr.size
              have hBg := Blk.new Wn 27 #[.int .i64 0, .int .i64 0, .int .i64 0, .slice none 0 0, .slice none 0 0]
              replace hRi := Kd.R_alloc hRi (.cells #[.int .i64 0, .int .i64 0, .int .i64 0, .slice none 0 0, .slice none 0 0] 27)
              replace hRc := Kd.R_alloc hRc (.cells #[.int .i64 0, .int .i64 0, .int .i64 0, .slice none 0 0, .slice none 0 0] 27)
              replace hFr := hFr.alloc (.cells #[.int .i64 0, .int .i64 0, .int .i64 0, .slice none 0 0, .slice none 0 0] 27)
              generalize Wn.heap.size = g3 at hBg hg3 ⊢
              generalize World.alloc _ _ = Wn at hRi hRc hBg hFr ⊢
              have hTn := HT.out _ hFr
              refine hK.out (At St) _ _ (fun _ h => h) (fun _ => by (assumption)) ?_
              clear hK K
              try simp only [Act.put, List.setIfInBounds_toArray, List.set_cons_zero, List.set_cons_succ]
              refine rt_one 11 rfl (by kernel_rfl) (fun K hK => ?_)
              obtain ⟨Ac, cc, Wn, hr, hRn, hgn⟩ := app_flat (P := Try.prog) cmdFlat (xs := r.2.2.2) (n := r.2.2.2.length) (c := cb) 25 25 _ 32 Try.underlying25 info_cmd rfl (by decide) (by decide) hRc (Kd.C_below HCc.out (hFr.below (fun _ _ h => h))) (fun k hk => Nat.le_trans hFr.size hk) hFr.size (by have := HB2.out; omega)
              refine step_builtin2 rfl rfl rfl rfl (bi_append hr) ?_
              replace hRi := Kd.R_over' hRi (Kd.R_typed hRc) (by decide) hgn
              replace hBg := blk_grown hBg hgn (Kd.R_ne hRc hBg (by decide))
              replace hFr := hFr.trans' (Fr.of_grown hgn) (fun i hi h => by have := Kd.R_base hRc i h.symm; omega)
              clear hRc
              have hRc := hRn
              clear hRn
              have hTn := HT.out _ hFr
              refine hK.out (At St) _ _ (fun _ h => h) (fun _ => by (assumption)) ?_
              clear hK K
              try simp only [Act.put, List.setIfInBounds_toArray, List.set_cons_zero, List.set_cons_succ]
              refine rt_free 12 (v := ?_) rfl (by kernel_rfl) (by kernel_rfl) (by kernel_rfl) (by kernel_rfl) (fun _ _ _ h => h) (by rfl) (fun _ => by first | assumption | exact HS0 _ rfl | exact HT.out _ (by repeat (first | exact Fr.refl _ _ | apply Fr.drew | refine Fr.alloc ?_ _))) ?_ ?_
              rotate_left 1
              · intro w; go_simp <;> with_reducible rfl
              try simp only [Act.put, List.setIfInBounds_toArray, List.set_cons_zero, List.set_cons_succ]
              refine rt_one 14 rfl (by kernel_rfl) (fun K hK => ?_)
              have b0 := Blk.cell hBg 0
              have b1 := Blk.cell hBg 1
              have b2 := Blk.cell hBg 2
              have b3 := Blk.cell hBg 3
              have b4 := Blk.cell hBg 4
              have bf := Blk.frozen hBg
              simp only [List.getElem?_toArray, List.getElem?_cons_zero, List.getElem?_cons_succ] at b0 b1 b2 b3 b4
              go_simp
              replace hRi := set5_R hRi hBg (by decide) (.int .i64 r.1.1) (.int .i64 r.1.2) (.int .i64 r.2.1) (.slice Ai r.2.2.1.length ci) (.slice Ac r.2.2.2.length cc)
              replace hRc := set5_R hRc hBg (by decide) (.int .i64 r.1.1) (.int .i64 r.1.2) (.int .i64 r.2.1) (.slice Ai r.2.2.1.length ci) (.slice Ac r.2.2.2.length cc)
              replace hFr := set5_Fr hFr hg3 (.int .i64 r.1.1) (.int .i64 r.1.2) (.int .i64 r.2.1) (.slice Ai r.2.2.1.length ci) (.slice Ac r.2.2.2.length cc)
              replace hBg := set5 hBg (v0 := .int .i64 r.1.1) (v1 := .int .i64 r.1.2) (v2 := .int .i64 r.2.1) (v3 := .slice Ai r.2.2.1.length ci) (v4 := .slice Ac r.2.2.2.length cc)
              clear b0 b1 b2 b3 b4 bf
              generalize World.setCell _ _ _ = Wn at hRi hRc hBg hFr ⊢
              refine hK.out (At St) _ _ (fun _ h => h) (late_abs (by kernel_rfl)) ?_
              clear hK K
              try simp only [Act.put, List.setIfInBounds_toArray, List.set_cons_zero, List.set_cons_succ]
              refine rt_done (by kernel_rfl) ?_
              all_goals exact cont _ _ _ _ _ _ _ _ hRi hRc hBg hg3 hFr
            exact AllNextt.nil
            all_goals exact cont _ _ _ _ _ _ _ _ hRi hRc hBg hg3 hFr
          refine AllNextt.cons rfl (fun K hK => ?_) ?_
          · skip
            go_simp
            clear hBg
            have hg3 := hFr.size
            have hBg := Blk.new Wn 27 #[.int .i64 0, .int .i64 0, .int .i64 0, .slice none 0 0, .slice none 0 0]
            replace hRi := Kd.R_alloc hRi (.cells #[.int .i64 0, .int .i64 0, .int .i64 0, .slice none 0 0, .slice none 0 0] 27)
            replace hRc := Kd.R_alloc hRc (.cells #[.int .i64 0, .int .i64 0, .int .i64 0, .slice none 0 0, .slice none 0 0] 27)
            replace hFr := hFr.alloc (.cells #[.int .i64 0, .int .i64 0, .int .i64 0, .slice none 0 0, .slice none 0 0] 27)
            generalize Wn.heap.size = g3 at hBg hg3 ⊢
            generalize World.alloc _ _ = Wn at hRi hRc hBg hFr ⊢
            have hTn := HT.out _ hFr
            refine hK.out (At St) _ _ (fun _ h => h) (fun _ => by (assumption)) ?_
            clear hK K
            try simp only [Act.put, List.setIfInBounds_toArray, List.set_cons_zero, List.set_cons_succ]
            refine rt_one 8 rfl (by kernel_rfl) (fun K hK => ?_)
            go_simp
            have hn := Kd.R_mono (Kd.R_lower (R_empty cmdK 36 _) hFr.size) (ok' := fun k => w1.heap.size ≤ k) (fun k hk => Nat.le_trans hFr.size hk)
            replace hRi := Kd.R_alloc hRi (.cells #[] 36)
            replace hBg := Blk.alloc hBg (.cells #[] 36)
            replace hFr := hFr.alloc (.cells #[] 36)
            clear hRc
            have hRc := hn
            clear hn
            generalize Wn.heap.size = gi at hRc ⊢
            generalize World.alloc _ _ = Wn at hRi hRc hBg hFr ⊢
            have hTn := HT.out _ hFr
            refine hK.out (At St) _ _ (fun _ h => h) (fun _ => by (assumption)) ?_
            clear hK K
            try simp only [Act.put, List.setIfInBounds_toArray, List.set_cons_zero, List.set_cons_succ]
            refine rt_one 11 rfl (by kernel_rfl) (fun K hK => ?_)
            obtain ⟨Ac, cc, Wn, hr, hRn, hgn⟩ := app_flat (P := Try.prog) cmdFlat (xs := r.2.2.2) (n := r.2.2.2.length) (c := cb) 25 25 _ 32 Try.underlying25 info_cmd rfl (by decide) (by decide) hRc (Kd.C_below HCc.out (hFr.below (fun _ _ h => h))) (fun k hk => Nat.le_trans hFr.size hk) hFr.size (by have := HB2.out; omega)
            refine step_builtin2 rfl rfl rfl rfl (bi_append hr) ?_
            replace hRi := Kd.R_over' hRi (Kd.R_typed hRc) (by decide) hgn
            replace hBg := blk_grown hBg hgn (Kd.R_ne hRc hBg (by decide))
            replace hFr := hFr.trans' (Fr.of_grown hgn) (fun i hi h => by have := Kd.R_base hRc i h.symm; omega)
            clear hRc
            have hRc := hRn
            clear hRn
            have hTn := HT.out _ hFr
            refine hK.out (At St) _ _ (fun _ h => h) (fun _ => by (assumption)) ?_
            clear hK K
            try simp only [Act.put, List.setIfInBounds_toArray, List.set_cons_zero, List.set_cons_succ]
            refine rt_free 12 (v := ?_) rfl (by kernel_rfl) (by kernel_rfl) (by kernel_rfl) (by kernel_rfl) (fun _ _ _ h => h) (by rfl) (fun _ => by first | assumption | exact HS0 _ rfl | exact HT.out _ (by repeat (first | exact Fr.refl _ _ | apply Fr.drew | refine Fr.alloc ?_ _))) ?_ ?_
            rotate_left 1
            · intro w; go_simp <;> with_reducible rfl
            try simp only [Act.put, List.setIfInBounds_toArray, List.set_cons_zero, List.set_cons_succ]
            refine rt_one 14 rfl (by kernel_rfl) (fun K hK => ?_)
            have b0 := Blk.cell hBg 0
            have b1 := Blk.cell hBg 1
            have b2 := Blk.cell hBg 2
            have b3 := Blk.cell hBg 3
            have b4 := Blk.cell hBg 4
            have bf := Blk.frozen hBg
            simp only [List.getElem?_toArray, List.getElem?_cons_zero, List.getElem?_cons_succ] at b0 b1 b2 b3 b4
            go_simp
            replace hRi := set5_R hRi hBg (by decide) (.int .i64 r.1.1) (.int .i64 r.1.2) (.int .i64 r.2.1) (.slice Ai r.2.2.1.length ci) (.slice Ac r.2.2.2.length cc)
            replace hRc := set5_R hRc hBg (by decide) (.int .i64 r.1.1) (.int .i64 r.1.2) (.int .i64 r.2.1) (.slice Ai r.2.2.1.length ci) (.slice Ac r.2.2.2.length cc)
            replace hFr := set5_Fr hFr hg3 (.int .i64 r.1.1) (.int .i64 r.1.2) (.int .i64 r.2.1) (.slice Ai r.2.2.1.length ci) (.slice Ac r.2.2.2.length cc)
            replace hBg := set5 hBg (v0 := .int .i64 r.1.1) (v1 := .int .i64 r.1.2) (v2 := .int .i64 r.2.1) (v3 := .slice Ai r.2.2.1.length ci) (v4 := .slice Ac r.2.2.2.length cc)
            clear b0 b1 b2 b3 b4 bf
            generalize World.setCell _ _ _ = Wn at hRi hRc hBg hFr ⊢
            refine hK.out (At St) _ _ (fun _ h => h) (late_abs (by kernel_rfl)) ?_
            clear hK K
            try simp only [Act.put, List.setIfInBounds_toArray, List.set_cons_zero, List.set_cons_succ]
            refine rt_done (by kernel_rfl) ?_
            all_goals exact cont _ _ _ _ _ _ _ _ hRi hRc hBg hg3 hFr
          exact AllNextt.nil
          all_goals exact cont _ _ _ _ _ _ _ _ hRi hRc hBg hg3 hFr
        refine AllNextt.cons rfl (fun K hK => ?_) ?_
        · skip
          go_simp
          have hn := Kd.R_mono (Kd.R_lower (R_empty cmdK 36 _) hFr.size) (ok' := fun k => w1.heap.size ≤ k) (fun k hk => Nat.le_trans hFr.size hk)
          replace hRi := Kd.R_alloc hRi (.cells #[] 36)
          replace hBg := Blk.alloc hBg (.cells #[] 36)
          replace hFr := hFr.alloc (.cells #[] 36)
          clear hRc
          have hRc := hn
          clear hn
          generalize Wn.heap.size = gi at hRc ⊢
          generalize World.alloc _ _ = Wn at hRi hRc hBg hFr ⊢
          have hTn := HT.out _ hFr
          refine hK.out (At St) _ _ (fun _ h => h) (fun _ => by (assumption)) ?_
          clear hK K
          try simp only [Act.put, List.setIfInBounds_toArray, List.set_cons_zero, List.set_cons_succ]
          refine rt_ready [7, 13] (by kernel_rfl) (by simp) ?_
          refine AllNextt.cons rfl (fun K hK => ?_) ?_
          · skip
            obtain ⟨Ai, ci, Wn, hr, hRn, hgn⟩ := app_flat (P := Try.prog) idFlat (xs := r.2.2.1) (n := r.2.2.1.length) (c := cd) 24 24 _ 16 Try.underlying24 info_id rfl (by decide) (by decide) hRi (Kd.C_below HCi.out (hFr.below (fun _ _ h => h))) (fun k hk => Nat.le_trans hFr.size hk) hFr.size (by have := HB1.out; omega)
            refine step_builtin2 rfl rfl rfl rfl (bi_append hr) ?_
            replace hRc := Kd.R_over' hRc (Kd.R_typed hRi) (by decide) hgn
            replace hBg := blk_grown hBg hgn (Kd.R_ne hRi hBg (by decide))
            replace hFr := hFr.trans' (Fr.of_grown hgn) (fun i hi h => by have := Kd.R_base hRi i h.symm; omega)
            clear hRi
            have hRi := hRn
            clear hRn
            have hTn := HT.out _ hFr
            refine hK.out (At St) _ _ (fun _ h => h) (fun _ => by (assumption)) ?_
            clear hK K
            try simp only [Act.put, List.setIfInBounds_toArray, List.set_cons_zero, List.set_cons_succ]
            refine rt_ready [11, 13] (by kernel_rfl) (by simp) ?_
            refine AllNextt.cons rfl (fun K hK => ?_) ?_
            · skip
              obtain ⟨Ac, cc, Wn, hr, hRn, hgn⟩ := app_flat (P := Try.prog) cmdFlat (xs := r.2.2.2) (n := r.2.2.2.length) (c := cb) 25 25 _ 32 Try.underlying25 info_cmd rfl (by decide) (by decide) hRc (Kd.C_below HCc.out (hFr.below (fun _ _ h => h))) (fun k hk => Nat.le_trans hFr.size hk) hFr.size (by have := HB2.out; omega)
              refine step_builtin2 rfl rfl rfl rfl (bi_append hr) ?_
              replace hRi := Kd.R_over' hRi (Kd.R_typed hRc) (by decide) hgn
              replace hBg := blk_grown hBg hgn (Kd.R_ne hRc hBg (by decide))
              replace hFr := hFr.trans' (Fr.of_grown hgn) (fun i hi h => by have := Kd.R_base hRc i h.symm; omega)
              clear hRc
              have hRc := hRn
              clear hRn
              have hTn := HT.out _ hFr
              refine hK.out (At St) _ _ (fun _ h => h) (fun _ => by (assumption)) ?_
              clear hK K
              try simp only [Act.put, List.setIfInBounds_toArray, List.set_cons_zero, List.set_cons_succ]
              refine rt_free 12 (v := ?_) rfl (by kernel_rfl) (by kernel_rfl) (by kernel_rfl) (by kernel_rfl) (fun _ _ _ h => h) (by rfl) (fun _ => by first | assumption | exact HS0 _ rfl | exact HT.out _ (by repeat (first | exact Fr.refl _ _ | apply Fr.drew | refine Fr.alloc ?_ _))) ?_ ?_
              rotate_left 1
              · intro w; go_simp <;> with_reducible rfl
              try simp only [Act.put, List.setIfInBounds_toArray, List.set_cons_zero, List.set_cons_succ]
              refine rt_one 13 rfl (by kernel_rfl) (fun K hK => ?_)
              go_simp
              clear hBg
              have hg3 := hFr.size
              have hBg := Blk.new Wn 27 #[.int .i64 0, .int .i64 0, .int .i64 0, .slice none 0 0, .slice none 0 0]
              replace hRi := Kd.R_alloc hRi (.cells #[.int .i64 0, .int .i64 0, .int .i64 0, .slice none 0 0, .slice none 0 0] 27)
              replace hRc := Kd.R_alloc hRc (.cells #[.int .i64 0, .int .i64 0, .int .i64 0, .slice none 0 0, .slice none 0 0] 27)
              replace hFr := hFr.alloc (.cells #[.int .i64 0, .int .i64 0, .int .i64 0, .slice none 0 0, .slice none 0 0] 27)
              generalize Wn.heap.size = g3 at hBg hg3 ⊢
              generalize World.alloc _ _ = Wn at hRi hRc hBg hFr ⊢
              have hTn := HT.out _ hFr
              refine hK.out (At St) _ _ (fun _ h => h) (fun _ => by (assumption)) ?_
              clear hK K
              try simp only [Act.put, List.setIfInBounds_toArray, List.set_cons_zero, List.set_cons_succ]
              refine rt_one 14 rfl (by kernel_rfl) (fun K hK => ?_)
              have b0 := Blk.cell hBg 0
              have b1 := Blk.cell hBg 1
              have b2 := Blk.cell hBg 2
              have b3 := Blk.cell hBg 3
              have b4 := Blk.cell hBg 4
              have bf := Blk.frozen hBg
              simp only [List.getElem?_toArray, List.getElem?_cons_zero, List.getElem?_cons_succ] at b0 b1 b2 b3 b4
              go_simp
              replace hRi := set5_R hRi hBg (by decide) (.int .i64 r.1.1) (.int .i64 r.1.2) (.int .i64 r.2.1) (.slice Ai r.2.2.1.length ci) (.slice Ac r.2.2.2.length cc)
              replace hRc := set5_R hRc hBg (by decide) (.int .i64 r.1.1) (.int .i64 r.1.2) (.int .i64 r.2.1) (.slice Ai r.2.2.1.length ci) (.slice Ac r.2.2.2.length cc)
              replace hFr := set5_Fr hFr hg3 (.int .i64 r.1.1) (.int .i64 r.1.2) (.int .i64 r.2.1) (.slice Ai r.2.2.1.length ci) (.slice Ac r.2.2.2.length cc)
              replace hBg := set5 hBg (v0 := .int .i64 r.1.1) (v1 := .int .i64 r.1.2) (v2 := .int .i64 r.2.1) (v3 := .slice Ai r.2.2.1.length ci) (v4 := .slice Ac r.2.2.2.length cc)
              clear b0 b1 b2 b3 b4 bf
              generalize World.setCell _ _ _ = Wn at hRi hRc hBg hFr ⊢
              refine hK.out (At St) _ _ (fun _ h => h) (late_abs (by kernel_rfl)) ?_
              clear hK K
              try simp only [Act.put, List.setIfInBounds_toArray, List.set_cons_zero, List.set_cons_succ]
              refine rt_done (by kernel_rfl) ?_
              all_goals exact cont _ _ _ _ _ _ _ _ hRi hRc hBg hg3 hFr
            refine AllNextt.cons rfl (fun K hK => ?_) ?_
            · skip
              go_simp
              clear hBg
              have hg3 := hFr.size
              have hBg := Blk.new Wn 27 #[.int .i64 0, .int .i64 0, .int .i64 0, .slice none 0 0, .slice none 0 0]
              replace hRi := Kd.R_alloc hRi (.cells #[.int .i64 0, .int .i64 0, .int .i64 0, .slice none 0 0, .slice none 0 0] 27)
              replace hRc := Kd.R_alloc hRc (.cells #[.int .i64 0, .int .i64 0, .int .i64 0, .slice none 0 0, .slice none 0 0] 27)
              replace hFr := hFr.alloc (.cells #[.int .i64 0, .int .i64 0, .int .i64 0, .slice none 0 0, .slice none 0 0] 27)
              generalize Wn.heap.size = g3 at hBg hg3 ⊢
              generalize World.alloc _ _ = Wn at hRi hRc hBg hFr ⊢
              have hTn := HT.out _ hFr
              refine hK.out (At St) _ _ (fun _ h => h) (fun _ => by (assumption)) ?_
              clear hK K
              try simp only [Act.put, List.setIfInBounds_toArray, List.set_cons_zero, List.set_cons_succ]
              refine rt_one 11 rfl (by kernel_rfl) (fun K hK => ?_)
              obtain ⟨Ac, cc, Wn, hr, hRn, hgn⟩ := app_flat (P := Try.prog) cmdFlat (xs := r.2.2.2) (n := r.2.2.2.length) (c := cb) 25 25 _ 32 Try.underlying25 info_cmd rfl (by decide) (by decide) hRc (Kd.C_below HCc.out (hFr.below (fun _ _ h => h))) (fun k hk => Nat.le_trans hFr.size hk) hFr.size (by have := HB2.out; omega)
              refine step_builtin2 rfl rfl rfl rfl (bi_append hr) ?_
              replace hRi := Kd.R_over' hRi (Kd.R_typed hRc) (by decide) hgn
              replace hBg := blk_grown hBg hgn (Kd.R_ne hRc hBg (by decide))
              replace hFr := hFr.trans' (Fr.of_grown hgn) (fun i hi h => by have := Kd.R_base hRc i h.symm; omega)
              clear hRc
              have hRc := hRn
              clear hRn
              have hTn := HT.out _ hFr
              refine hK.out (At St) _ _ (fun _ h => h) (fun _ => by (assumption)) ?_
              clear hK K
              try simp only [Act.put, List.setIfInBounds_toArray, List.set_cons_zero, List.set_cons_succ]
              refine rt_free 12 (v := ?_) rfl (by kernel_rfl) (by kernel_rfl) (by kernel_rfl) (by kernel_rfl) (fun _ _ _ h => h) (by rfl) (fun _ => by first | assumption | exact HS0 _ rfl | exact HT.out _ (by repeat (first | exact Fr.refl _ _ | apply Fr.drew | refine Fr.alloc ?_ _))) ?_ ?_
              rotate_left 1
              · intro w; go_simp <;> with_reducible rfl
              try simp only [Act.put, List.setIfInBounds_toArray, List.set_cons_zero, List.set_cons_succ]
              refine rt_one 14 rfl (by kernel_rfl) (fun K hK => ?_)
              have b0 := Blk.cell hBg 0
              have b1 := Blk.cell hBg 1
              have b2 := Blk.cell hBg 2
              have b3 := Blk.cell hBg 3
              have b4 := Blk.cell hBg 4
              have bf := Blk.frozen hBg
              simp only [List.getElem?_toArray, List.getElem?_cons_zero, List.getElem?_cons_succ] at b0 b1 b2 b3 b4
              go_simp
              replace hRi := set5_R hRi hBg (by decide) (.int .i64 r.1.1) (.int .i64 r.1.2) (.int .i64 r.2.1) (.slice Ai r.2.2.1.length ci) (.slice Ac r.2.2.2.length cc)
              replace hRc := set5_R hRc hBg (by decide) (.int .i64 r.1.1) (.int .i64 r.1.2) (.int .i64 r.2.1) (.slice Ai r.2.2.1.length ci) (.slice Ac r.2.2.2.length cc)
              replace hFr := set5_Fr hFr hg3 (.int .i64 r.1.1) (.int .i64 r.1.2) (.int .i64 r.2.1) (.slice Ai r.2.2.1.length ci) (.slice Ac r.2.2.2.length cc)
              replace hBg := set5 hBg (v0 := .int .i64 r.1.1) (v1 := .int .i64 r.1.2) (v2 := .int .i64 r.2.1) (v3 := .slice Ai r.2.2.1.length ci) (v4 := .slice Ac r.2.2.2.length cc)
              clear b0 b1 b2 b3 b4 bf
              generalize World.setCell _ _ _ = Wn at hRi hRc hBg hFr ⊢
              refine hK.out (At St) _ _ (fun _ h => h) (late_abs (by kernel_rfl)) ?_
              clear hK K
              try simp only [Act.put, List.setIfInBounds_toArray, List.set_cons_zero, List.set_cons_succ]
              refine rt_done (by kernel_rfl) ?_
              all_goals exact cont _ _ _ _ _ _ _ _ hRi hRc hBg hg3 hFr
            exact AllNextt.nil
            all_goals exact cont _ _ _ _ _ _ _ _ hRi hRc hBg hg3 hFr
          refine AllNextt.cons rfl (fun K hK => ?_) ?_
          · skip
            go_simp
            clear hBg
            have hg3 := hFr.size
            have hBg := Blk.new Wn 27 #[.int .i64 0, .int .i64 0, .int .i64 0, .slice none 0 0, .slice none 0 0]
            replace hRi := Kd.R_alloc hRi (.cells #[.int .i64 0, .int .i64 0, .int .i64 0, .slice none 0 0, .slice none 0 0] 27)
            replace hRc := Kd.R_alloc hRc (.cells #[.int .i64 0, .int .i64 0, .int .i64 0, .slice none 0 0, .slice none 0 0] 27)
            replace hFr := hFr.alloc (.cells #[.int .i64 0, .int .i64 0, .int .i64 0, .slice none 0 0, .slice none 0 0] 27)
            generalize Wn.heap.size = g3 at hBg hg3 ⊢
            generalize World.alloc _ _ = Wn at hRi hRc hBg hFr ⊢
            have hTn := HT.out _ hFr
            refine hK.out (At St) _ _ (fun _ h => h) (fun _ => by (assumption)) ?_
            clear hK K
            try simp only [Act.put, List.setIfInBounds_toArray, List.set_cons_zero, List.set_cons_succ]
            refine rt_one 7 rfl (by kernel_rfl) (fun K hK => ?_)
            obtain ⟨Ai, ci, Wn, hr, hRn, hgn⟩ := app_flat (P := Try.prog) idFlat (xs := r.2.2.1) (n := r.2.2.1.length) (c := cd) 24 24 _ 16 Try.underlying24 info_id rfl (by decide) (by decide) hRi (Kd.C_below HCi.out (hFr.below (fun _ _ h => h))) (fun k hk => Nat.le_trans hFr.size hk) hFr.size (by have := HB1.out; omega)
            refine step_builtin2 rfl rfl rfl rfl (bi_append hr) ?_
            replace hRc := Kd.R_over' hRc (Kd.R_typed hRi) (by decide) hgn
            replace hBg := blk_grown hBg hgn (Kd.R_ne hRi hBg (by decide))
            replace hFr := hFr.trans' (Fr.of_grown hgn) (fun i hi h => by have := Kd.R_base hRi i h.symm; omega)
            clear hRi
            have hRi := hRn
            clear hRn
            have hTn := HT.out _ hFr
            refine hK.out (At St) _ _ (fun _ h => h) (fun _ => by (assumption)) ?_
            clear hK K
            try simp only [Act.put, List.setIfInBounds_toArray, List.set_cons_zero, List.set_cons_succ]
            refine rt_one 11 rfl (by kernel_rfl) (fun K hK => ?_)
            obtain ⟨Ac, cc, Wn, hr, hRn, hgn⟩ := app_flat (P := Try.prog) cmdFlat (xs := r.2.2.2) (n := r.2.2.2.length) (c := cb) 25 25 _ 32 Try.underlying25 info_cmd rfl (by decide) (by decide) hRc (Kd.C_below HCc.out (hFr.below (fun _ _ h => h))) (fun k hk => Nat.le_trans hFr.size hk) hFr.size (by have := HB2.out; omega)
            refine step_builtin2 rfl rfl rfl rfl (bi_append hr) ?_
            replace hRi := Kd.R_over' hRi (Kd.R_typed hRc) (by decide) hgn
            replace hBg := blk_grown hBg hgn (Kd.R_ne hRc hBg (by decide))
            replace hFr := hFr.trans' (Fr.of_grown hgn) (fun i hi h => by have := Kd.R_base hRc i h.symm; omega)
            clear hRc
            have hRc := hRn
            clear hRn
            have hTn := HT.out _ hFr
            refine hK.out (At St) _ _ (fun _ h => h) (fun _ => by (assumption)) ?_
            clear hK K
            try simp only [Act.put, List.setIfInBounds_toArray, List.set_cons_zero, List.set_cons_succ]
            refine rt_free 12 (v := ?_) rfl (by kernel_rfl) (by kernel_rfl) (by kernel_rfl) (by kernel_rfl) (fun _ _ _ h => h) (by rfl) (fun _ => by first | assumption | exact HS0 _ rfl | exact HT.out _ (by repeat (first | exact Fr.refl _ _ | apply Fr.drew | refine Fr.alloc ?_ _))) ?_ ?_
            rotate_left 1
            · intro w; go_simp <;> with_reducible rfl
            try simp only [Act.put, List.setIfInBounds_toArray, List.set_cons_zero, List.set_cons_succ]
            refine rt_one 14 rfl (by kernel_rfl) (fun K hK => ?_)
            have b0 := Blk.cell hBg 0
            have b1 := Blk.cell hBg 1
            have b2 := Blk.cell hBg 2
            have b3 := Blk.cell hBg 3
            have b4 := Blk.cell hBg 4
            have bf := Blk.frozen hBg
            simp only [List.getElem?_toArray, List.getElem?_cons_zero, List.getElem?_cons_succ] at b0 b1 b2 b3 b4
            go_simp
            replace hRi := set5_R hRi hBg (by decide) (.int .i64 r.1.1) (.int .i64 r.1.2) (.int .i64 r.2.1) (.slice Ai r.2.2.1.length ci) (.slice Ac r.2.2.2.length cc)
            replace hRc := set5_R hRc hBg (by decide) (.int .i64 r.1.1) (.int .i64 r.1.2) (.int .i64 r.2.1) (.slice Ai r.2.2.1.length ci) (.slice Ac r.2.2.2.length cc)
            replace hFr := set5_Fr hFr hg3 (.int .i64 r.1.1) (.int .i64 r.1.2) (.int .i64 r.2.1) (.slice Ai r.2.2.1.length ci) (.slice Ac r.2.2.2.length cc)
            replace hBg := set5 hBg (v0 := .int .i64 r.1.1) (v1 := .int .i64 r.1.2) (v2 := .int .i64 r.2.1) (v3 := .slice Ai r.2.2.1.length ci) (v4 := .slice Ac r.2.2.2.length cc)
            clear b0 b1 b2 b3 b4 bf
            generalize World.setCell _ _ _ = Wn at hRi hRc hBg hFr ⊢
            refine hK.out (At St) _ _ (fun _ h => h) (late_abs (by kernel_rfl)) ?_
            clear hK K
            try simp only [Act.put, List.setIfInBounds_toArray, List.set_cons_zero, List.set_cons_succ]
            refine rt_done (by kernel_rfl) ?_
            all_goals exact cont _ _ _ _ _ _ _ _ hRi hRc hBg hg3 hFr
          exact AllNextt.nil
          all_goals exact cont _ _ _ _ _ _ _ _ hRi hRc hBg hg3 hFr
        refine AllNextt.cons rfl (fun K hK => ?_) ?_
        · skip
          go_simp
          clear hBg
          have hg3 := hFr.size
          have hBg := Blk.new Wn 27 #[.int .i64 0, .int .i64 0, .int .i64 0, .slice none 0 0, .slice none 0 0]
          replace hRi := Kd.R_alloc hRi (.cells #[.int .i64 0, .int .i64 0, .int .i64 0, .slice none 0 0, .slice none 0 0] 27)
          replace hRc := Kd.R_alloc hRc (.cells #[.int .i64 0, .int .i64 0, .int .i64 0, .slice none 0 0, .slice none 0 0] 27)
          replace hFr := hFr.alloc (.cells #[.int .i64 0, .int .i64 0, .int .i64 0, .slice none 0 0, .slice none 0 0] 27)
          generalize Wn.heap.size = g3 at hBg hg3 ⊢
          generalize World.alloc _ _ = Wn at hRi hRc hBg hFr ⊢
          have hTn := HT.out _ hFr
          refine hK.out (At St) _ _ (fun _ h => h) (fun _ => by (assumption)) ?_
          clear hK K
          try simp only [Act.put, List.setIfInBounds_toArray, List.set_cons_zero, List.set_cons_succ]
          refine rt_ready [7, 8] (by kernel_rfl) (by simp) ?_
          refine AllNextt.cons rfl (fun K hK => ?_) ?_
          · skip
            obtain ⟨Ai, ci, Wn, hr, hRn, hgn⟩ := app_flat (P := Try.prog) idFlat (xs := r.2.2.1) (n := r.2.2.1.length) (c := cd) 24 24 _ 16 Try.underlying24 info_id rfl (by decide) (by decide) hRi (Kd.C_below HCi.out (hFr.below (fun _ _ h => h))) (fun k hk => Nat.le_trans hFr.size hk) hFr.size (by have := HB1.out; omega)
            refine step_builtin2 rfl rfl rfl rfl (bi_append hr) ?_
            replace hRc := Kd.R_over' hRc (Kd.R_typed hRi) (by decide) hgn
            replace hBg := blk_grown hBg hgn (Kd.R_ne hRi hBg (by decide))
            replace hFr := hFr.trans' (Fr.of_grown hgn) (fun i hi h => by have := Kd.R_base hRi i h.symm; omega)
            clear hRi
            have hRi := hRn
            clear hRn
            have hTn := HT.out _ hFr
            refine hK.out (At St) _ _ (fun _ h => h) (fun _ => by (assumption)) ?_
            clear hK K
            try simp only [Act.put, List.setIfInBounds_toArray, List.set_cons_zero, List.set_cons_succ]
            refine rt_one 8 rfl (by kernel_rfl) (fun K hK => ?_)
            go_simp
            have hn := Kd.R_mono (Kd.R_lower (R_empty cmdK 36 _) hFr.size) (ok' := fun k => w1.heap.size ≤ k) (fun k hk => Nat.le_trans hFr.size hk)
            replace hRi := Kd.R_alloc hRi (.cells #[] 36)
            replace hBg := Blk.alloc hBg (.cells #[] 36)
            replace hFr := hFr.alloc (.cells #[] 36)
            clear hRc
            have hRc := hn
            clear hn
            generalize Wn.heap.size = gi at hRc ⊢
            generalize World.alloc _ _ = Wn at hRi hRc hBg hFr ⊢
            have hTn := HT.out _ hFr
            refine hK.out (At St) _ _ (fun _ h => h) (fun _ => by (assumption)) ?_
            clear hK K
            try simp only [Act.put, List.setIfInBounds_toArray, List.set_cons_zero, List.set_cons_succ]
            refine rt_one 11 rfl (by kernel_rfl) (fun K hK => ?_)
            obtain ⟨Ac, cc, Wn, hr, hRn, hgn⟩ := app_flat (P := Try.prog) cmdFlat (xs := r.2.2.2) (n := r.2.2.2.length) (c := cb) 25 25 _ 32 Try.underlying25 info_cmd rfl (by decide) (by decide) hRc (Kd.C_below HCc.out (hFr.below (fun _ _ h => h))) (fun k hk => Nat.le_trans hFr.size hk) hFr.size (by have := HB2.out; omega)
            refine step_builtin2 rfl rfl rfl rfl (bi_append hr) ?_
            replace hRi := Kd.R_over' hRi (Kd.R_typed hRc) (by decide) hgn
            replace hBg := blk_grown hBg hgn (Kd.R_ne hRc hBg (by decide))
            replace hFr := hFr.trans' (Fr.of_grown hgn) (fun i hi h => by have := Kd.R_base hRc i h.symm; omega)
            clear hRc
            have hRc := hRn
            clear hRn
            have hTn := HT.out _ hFr
            refine hK.out (At St) _ _ (fun _ h => h) (fun _ => by (assumption)) ?_
            clear hK K
            try simp only [Act.put, List.setIfInBounds_toArray, List.set_cons_zero, List.set_cons_succ]
            refine rt_free 12 (v := ?_) rfl (by kernel_rfl) (by kernel_rfl) (by kernel_rfl) (by kernel_rfl) (fun _ _ _ h => h) (by rfl) (fun _ => by first | assumption | exact HS0 _ rfl | exact HT.out _ (by repeat (first | exact Fr.refl _ _ | apply Fr.drew | refine Fr.alloc ?_ _))) ?_ ?_
            rotate_left 1
            · intro w; go_simp <;> with_reducible rfl
            try simp only [Act.put, List.setIfInBounds_toArray, List.set_cons_zero, List.set_cons_succ]
            refine rt_one 14 rfl (by kernel_rfl) (fun K hK => ?_)
            have b0 := Blk.cell hBg 0
            have b1 := Blk.cell hBg 1
            have b2 := Blk.cell hBg 2
            have b3 := Blk.cell hBg 3
            have b4 := Blk.cell hBg 4
            have bf := Blk.frozen hBg
            simp only [List.getElem?_toArray, List.getElem?_cons_zero, List.getElem?_cons_succ] at b0 b1 b2 b3 b4
            go_simp
            replace hRi := set5_R hRi hBg (by decide) (.int .i64 r.1.1) (.int .i64 r.1.2) (.int .i64 r.2.1) (.slice Ai r.2.2.1.length ci) (.slice Ac r.2.2.2.length cc)
            replace hRc := set5_R hRc hBg (by decide) (.int .i64 r.1.1) (.int .i64 r.1.2) (.int .i64 r.2.1) (.slice Ai r.2.2.1.length ci) (.slice Ac r.2.2.2.length cc)
            replace hFr := set5_Fr hFr hg3 (.int .i64 r.1.1) (.int .i64 r.1.2) (.int .i64 r.2.1) (.slice Ai r.2.2.1.length ci) (.slice Ac r.2.2.2.length cc)
            replace hBg := set5 hBg (v0 := .int .i64 r.1.1) (v1 := .int .i64 r.1.2) (v2 := .int .i64 r.2.1) (v3 := .slice Ai r.2.2.1.length ci) (v4 := .slice Ac r.2.2.2.length cc)
            clear b0 b1 b2 b3 b4 bf
            generalize World.setCell _ _ _ = Wn at hRi hRc hBg hFr ⊢
            refine hK.out (At St) _ _ (fun _ h => h) (late_abs (by kernel_rfl)) ?_
            clear hK K
            try simp only [Act.put, List.setIfInBounds_toArray, List.set_cons_zero, List.set_cons_succ]
            refine rt_done (by kernel_rfl) ?_
            all_goals exact cont _ _ _ _ _ _ _ _ hRi hRc hBg hg3 hFr
          refine AllNextt.cons rfl (fun K hK => ?_) ?_
          · skip
            go_simp
            have hn := Kd.R_mono (Kd.R_lower (R_empty cmdK 36 _) hFr.size) (ok' := fun k => w1.heap.size ≤ k) (fun k hk => Nat.le_trans hFr.size hk)
            replace hRi := Kd.R_alloc hRi (.cells #[] 36)
            replace hBg := Blk.alloc hBg (.cells #[] 36)
            replace hFr := hFr.alloc (.cells #[] 36)
            clear hRc
            have hRc := hn
            clear hn
            generalize Wn.heap.size = gi at hRc ⊢
            generalize World.alloc _ _ = Wn at hRi hRc hBg hFr ⊢
            have hTn := HT.out _ hFr
            refine hK.out (At St) _ _ (fun _ h => h) (fun _ => by (assumption)) ?_
            clear hK K
            try simp only [Act.put, List.setIfInBounds_toArray, List.set_cons_zero, List.set_cons_succ]
            refine rt_one 7 rfl (by kernel_rfl) (fun K hK => ?_)
            obtain ⟨Ai, ci, Wn, hr, hRn, hgn⟩ := app_flat (P := Try.prog) idFlat (xs := r.2.2.1) (n := r.2.2.1.length) (c := cd) 24 24 _ 16 Try.underlying24 info_id rfl (by decide) (by decide) hRi (Kd.C_below HCi.out (hFr.below (fun _ _ h => h))) (fun k hk => Nat.le_trans hFr.size hk) hFr.size (by have := HB1.out; omega)
            refine step_builtin2 rfl rfl rfl rfl (bi_append hr) ?_
            replace hRc := Kd.R_over' hRc (Kd.R_typed hRi) (by decide) hgn
            replace hBg := blk_grown hBg hgn (Kd.R_ne hRi hBg (by decide))
            replace hFr := hFr.trans' (Fr.of_grown hgn) (fun i hi h => by have := Kd.R_base hRi i h.symm; omega)
            clear hRi
            have hRi := hRn
            clear hRn
            have hTn := HT.out _ hFr
            refine hK.out (At St) _ _ (fun _ h => h) (fun _ => by (assumption)) ?_
            clear hK K
            try simp only [Act.put, List.setIfInBounds_toArray, List.set_cons_zero, List.set_cons_succ]
            refine rt_one 11 rfl (by kernel_rfl) (fun K hK => ?_)
            obtain ⟨Ac, cc, Wn, hr, hRn, hgn⟩ := app_flat (P := Try.prog) cmdFlat (xs := r.2.2.2) (n := r.2.2.2.length) (c := cb) 25 25 _ 32 Try.underlying25 info_cmd rfl (by decide) (by decide) hRc (Kd.C_below HCc.out (hFr.below (fun _ _ h => h))) (fun k hk => Nat.le_trans hFr.size hk) hFr.size (by have := HB2.out; omega)
            refine step_builtin2 rfl rfl rfl rfl (bi_append hr) ?_
            replace hRi := Kd.R_over' hRi (Kd.R_typed hRc) (by decide) hgn
            replace hBg := blk_grown hBg hgn (Kd.R_ne hRc hBg (by decide))
            replace hFr := hFr.trans' (Fr.of_grown hgn) (fun i hi h => by have := Kd.R_base hRc i h.symm; omega)
            clear hRc
            have hRc := hRn
            clear hRn
            have hTn := HT.out _ hFr
            refine hK.out (At St) _ _ (fun _ h => h) (fun _ => by (assumption)) ?_
            clear hK K
            try simp only [Act.put, List.setIfInBounds_toArray, List.set_cons_zero, List.set_cons_succ]
            refine rt_free 12 (v := ?_) rfl (by kernel_rfl) (by kernel_rfl) (by kernel_rfl) (by kernel_rfl) (fun _ _ _ h => h) (by rfl) (fun _ => by first | assumption | exact HS0 _ rfl | exact HT.out _ (by repeat (first | exact Fr.refl _ _ | apply Fr.drew | refine Fr.alloc ?_ _))) ?_ ?_
            rotate_left 1
            · intro w; go_simp <;> with_reducible rfl
            try simp only [Act.put, List.setIfInBounds_toArray, List.set_cons_zero, List.set_cons_succ]
            refine rt_one 14 rfl (by kernel_rfl) (fun K hK => ?_)
            have b0 := Blk.cell hBg 0
            have b1 := Blk.cell hBg 1
            have b2 := Blk.cell hBg 2
            have b3 := Blk.cell hBg 3
            have b4 := Blk.cell hBg 4
            have bf := Blk.frozen hBg
            simp only [List.getElem?_toArray, List.getElem?_cons_zero, List.getElem?_cons_succ] at b0 b1 b2 b3 b4
            go_simp
            replace hRi := set5_R hRi hBg (by decide) (.int .i64 r.1.1) (.int .i64 r.1.2) (.int .i64 r.2.1) (.slice Ai r.2.2.1.length ci) (.slice Ac r.2.2.2.length cc)
            replace hRc := set5_R hRc hBg (by decide) (.int .i64 r.1.1) (.int .i64 r.1.2) (.int .i64 r.2.1) (.slice Ai r.2.2.1.length ci) (.slice Ac r.2.2.2.length cc)
            replace hFr := set5_Fr hFr hg3 (.int .i64 r.1.1) (.int .i64 r.1.2) (.int .i64 r.2.1) (.slice Ai r.2.2.1.length ci) (.slice Ac r.2.2.2.length cc)
            replace hBg := set5 hBg (v0 := .int .i64 r.1.1) (v1 := .int .i64 r.1.2) (v2 := .int .i64 r.2.1) (v3 := .slice Ai r.2.2.1.length ci) (v4 := .slice Ac r.2.2.2.length cc)
            clear b0 b1 b2 b3 b4 bf
            generalize World.setCell _ _ _ = Wn at hRi hRc hBg hFr ⊢
            refine hK.out (At St) _ _ (fun _ h => h) (late_abs (by kernel_rfl)) ?_
            clear hK K
            try simp only [Act.put, List.setIfInBounds_toArray, List.set_cons_zero, List.set_cons_succ]
            refine rt_done (by kernel_rfl) ?_
            all_goals exact cont _ _ _ _ _ _ _ _ hRi hRc hBg hg3 hFr
          exact AllNextt.nil
          all_goals exact cont _ _ _ _ _ _ _ _ hRi hRc hBg hg3 hFr
        exact AllNextt.nil
        all_goals exact cont _ _ _ _ _ _ _ _ hRi hRc hBg hg3 hFr
      refine AllNextt.cons rfl (fun K hK => ?_) ?_
      · skip
        go_simp
        have hn := Kd.R_mono (Kd.R_lower (R_empty cmdK 36 _) hFr.size) (ok' := fun k => w1.heap.size ≤ k) (fun k hk => Nat.le_trans hFr.size hk)
        replace hRi := Kd.R_alloc hRi (.cells #[] 36)
        replace hBg := Blk.alloc hBg (.cells #[] 36)
        replace hFr := hFr.alloc (.cells #[] 36)
        clear hRc
        have hRc := hn
        clear hn
        generalize Wn.heap.size = gi at hRc ⊢
        generalize World.alloc _ _ = Wn at hRi hRc hBg hFr ⊢
        have hTn := HT.out _ hFr
        refine hK.out (At St) _ _ (fun _ h => h) (fun _ => by (assumption)) ?_
        clear hK K
        try simp only [Act.put, List.setIfInBounds_toArray, List.set_cons_zero, List.set_cons_succ]
        refine rt_ready [4, 13] (by kernel_rfl) (by simp) ?_
        refine AllNextt.cons rfl (fun K hK => ?_) ?_
        · skip
          go_simp
          have hn := Kd.R_mono (Kd.R_lower (R_empty idK 23 _) hFr.size) (ok' := fun k => w1.heap.size ≤ k) (fun k hk => Nat.le_trans hFr.size hk)
          replace hRc := Kd.R_alloc hRc (.cells #[] 23)
          replace hBg := Blk.alloc hBg (.cells #[] 23)
          replace hFr := hFr.alloc (.cells #[] 23)
          clear hRi
          have hRi := hn
          clear hn
          generalize Wn.heap.size = gi at hRi ⊢
          generalize World.alloc _ _ = Wn at hRi hRc hBg hFr ⊢
          have hTn := HT.out _ hFr
          refine hK.out (At St) _ _ (fun _ h => h) (fun _ => by (assumption)) ?_
          clear hK K
          try simp only [Act.put, List.setIfInBounds_toArray, List.set_cons_zero, List.set_cons_succ]
          refine rt_ready [7, 13] (by kernel_rfl) (by simp) ?_
          refine AllNextt.cons rfl (fun K hK => ?_) ?_
          · skip
            obtain ⟨Ai, ci, Wn, hr, hRn, hgn⟩ := app_flat (P := Try.prog) idFlat (xs := r.2.2.1) (n := r.2.2.1.length) (c := cd) 24 24 _ 16 Try.underlying24 info_id rfl (by decide) (by decide) hRi (Kd.C_below HCi.out (hFr.below (fun _ _ h => h))) (fun k hk => Nat.le_trans hFr.size hk) hFr.size (by have := HB1.out; omega)
            refine step_builtin2 rfl rfl rfl rfl (bi_append hr) ?_
            replace hRc := Kd.R_over' hRc (Kd.R_typed hRi) (by decide) hgn
            replace hBg := blk_grown hBg hgn (Kd.R_ne hRi hBg (by decide))
            replace hFr := hFr.trans' (Fr.of_grown hgn) (fun i hi h => by have := Kd.R_base hRi i h.symm; omega)
            clear hRi
            have hRi := hRn
            clear hRn
            have hTn := HT.out _ hFr
            refine hK.out (At St) _ _ (fun _ h => h) (fun _ => by (assumption)) ?_
            clear hK K
            try simp only [Act.put, List.setIfInBounds_toArray, List.set_cons_zero, List.set_cons_succ]
            refine rt_ready [11, 13] (by kernel_rfl) (by simp) ?_
            refine AllNextt.cons rfl (fun K hK => ?_) ?_
            · skip
              obtain ⟨Ac, cc, Wn, hr, hRn, hgn⟩ := app_flat (P := Try.prog) cmdFlat (xs := r.2.2.2) (n := r.2.2.2.length) (c := cb) 25 25 _ 32 Try.underlying25 info_cmd rfl (by decide) (by decide) hRc (Kd.C_below HCc.out (hFr.below (fun _ _ h => h))) (fun k hk => Nat.le_trans hFr.size hk) hFr.size (by have := HB2.out; omega)
              refine step_builtin2 rfl rfl rfl rfl (bi_append hr) ?_
              replace hRi := Kd.R_over' hRi (Kd.R_typed hRc) (by decide) hgn
              replace hBg := blk_grown hBg hgn (Kd.R_ne hRc hBg (by decide))
              replace hFr := hFr.trans' (Fr.of_grown hgn) (fun i hi h => by have := Kd.R_base hRc i h.symm; omega)
              clear hRc
              have hRc := hRn
              clear hRn
              have hTn := HT.out _ hFr
              refine hK.out (At St) _ _ (fun _ h => h) (fun _ => by (assumption)) ?_
              clear hK K
              try simp only [Act.put, List.setIfInBounds_toArray, List.set_cons_zero, List.set_cons_succ]
              refine rt_free 12 (v := ?_) rfl (by kernel_rfl) (by kernel_rfl) (by kernel_rfl) (by kernel_rfl) (fun _ _ _ h => h) (by rfl) (fun _ => by first | assumption | exact HS0 _ rfl | exact HT.out _ (by repeat (first | exact Fr.refl _ _ | apply Fr.drew | refine Fr.alloc ?_ _))) ?_ ?_
              rotate_left 1
              · intro w; go_simp <;> with_reducible rfl
              try simp only [Act.put, List.setIfInBounds_toArray, List.set_cons_zero, List.set_cons_succ]
              refine rt_one 13 rfl (by kernel_rfl) (fun K hK => ?_)
              go_simp
              clear hBg
              have hg3 := hFr.size
              have hBg := Blk.new Wn 27 #[.int .i64 0, .int .i64 0, .int .i64 0, .slice none 0 0, .slice none 0 0]
              replace hRi := Kd.R_alloc hRi (.cells #[.int .i64 0, .int .i64 0, .int .i64 0, .slice none 0 0, .slice none 0 0] 27)
              replace hRc := Kd.R_alloc hRc (.cells #[.int .i64 0, .int .i64 0, .int .i64 0, .slice none 0 0, .slice none 0 0] 27)
              replace hFr := hFr.alloc (.cells #[.int .i64 0, .int .i64 0, .int .i64 0, .slice none 0 0, .slice none 0 0] 27)
              generalize Wn.heap.size = g3 at hBg hg3 ⊢
              generalize World.alloc _ _ = Wn at hRi hRc hBg hFr ⊢
              have hTn := HT.out _ hFr
              refine hK.out (At St) _ _ (fun _ h => h) (fun _ => by (assumption)) ?_
              clear hK K
              try simp only [Act.put, List.setIfInBounds_toArray, List.set_cons_zero, List.set_cons_succ]
              refine rt_one 14 rfl (by kernel_rfl) (fun K hK => ?_)
              have b0 := Blk.cell hBg 0
              have b1 := Blk.cell hBg 1
              have b2 := Blk.cell hBg 2
              have b3 := Blk.cell hBg 3
              have b4 := Blk.cell hBg 4
              have bf := Blk.frozen hBg
              simp only [List.getElem?_toArray, List.getElem?_cons_zero, List.getElem?_cons_succ] at b0 b1 b2 b3 b4
              go_simp
              replace hRi := set5_R hRi hBg (by decide) (.int .i64 r.1.1) (.int .i64 r.1.2) (.int .i64 r.2.1) (.slice Ai r.2.2.1.length ci) (.slice Ac r.2.2.2.length cc)
              replace hRc := set5_R hRc hBg (by decide) (.int .i64 r.1.1) (.int .i64 r.1.2) (.int .i64 r.2.1) (.slice Ai r.2.2.1.length ci) (.slice Ac r.2.2.2.length cc)
              replace hFr := set5_Fr hFr hg3 (.int .i64 r.1.1) (.int .i64 r.1.2) (.int .i64 r.2.1) (.slice Ai r.2.2.1.length ci) (.slice Ac r.2.2.2.length cc)
              replace hBg := set5 hBg (v0 := .int .i64 r.1.1) (v1 := .int .i64 r.1.2) (v2 := .int .i64 r.2.1) (v3 := .slice Ai r.2.2.1.length ci) (v4 := .slice Ac r.2.2.2.length cc)
              clear b0 b1 b2 b3 b4 bf
              generalize World.setCell _ _ _ = Wn at hRi hRc hBg hFr ⊢
              refine hK.out (At St) _ _ (fun _ h => h) (late_abs (by kernel_rfl)) ?_
              clear hK K
              try simp only [Act.put, List.setIfInBounds_toArray, List.set_cons_zero, List.set_cons_succ]
              refine rt_done (by kernel_rfl) ?_
              all_goals exact cont _ _ _ _ _ _ _ _ hRi hRc hBg hg3 hFr
            refine AllNextt.cons rfl (fun K hK => ?_) ?_
            · skip
              go_simp
              clear hBg
              have hg3 := hFr.size
              have hBg := Blk.new Wn 27 #[.int .i64 0, .int .i64 0, .int .i64 0, .slice none 0 0, .slice none 0 0]
              replace hRi := Kd.R_alloc hRi (.cells #[.int .i64 0, .int .i64 0, .int .i64 0, .slice none 0 0, .slice none 0 0] 27)
              replace hRc := Kd.R_alloc hRc (.cells #[.int .i64 0, .int .i64 0, .int .i64 0, .slice none 0 0, .slice none 0 0] 27)
              replace hFr := hFr.alloc (.cells #[.int .i64 0, .int .i64 0, .int .i64 0, .slice none 0 0, .slice none 0 0] 27)
              generalize Wn.heap.size = g3 at hBg hg3 ⊢
              generalize World.alloc _ _ = Wn at hRi hRc hBg hFr ⊢
              have hTn := HT.out _ hFr
              refine hK.out (At St) _ _ (fun _ h => h) (fun _ => by (assumption)) ?_
              clear hK K
              try simp only [Act.put, List.setIfInBounds_toArray, List.set_cons_zero, List.set_cons_succ]
              refine rt_one 11 rfl (by kernel_rfl) (fun K hK => ?_)
              obtain ⟨Ac, cc, Wn, hr, hRn, hgn⟩ := app_flat (P := Try.prog) cmdFlat (xs := r.2.2.2) (n := r.2.2.2.length) (c := cb) 25 25 _ 32 Try.underlying25 info_cmd rfl (by decide) (by decide) hRc (Kd.C_below HCc.out (hFr.below (fun _ _ h => h))) (fun k hk => Nat.le_trans hFr.size hk) hFr.size (by have := HB2.out; omega)
              refine step_builtin2 rfl rfl rfl rfl (bi_append hr) ?_
              replace hRi := Kd.R_over' hRi (Kd.R_typed hRc) (by decide) hgn
              replace hBg := blk_grown hBg hgn (Kd.R_ne hRc hBg (by decide))
              replace hFr := hFr.trans' (Fr.of_grown hgn) (fun i hi h => by have := Kd.R_base hRc i h.symm; omega)
              clear hRc
              have hRc := hRn
              clear hRn
              have hTn := HT.out _ hFr
              refine hK.out (At St) _ _ (fun _ h => h) (fun _ => by (assumption)) ?_
              clear hK K
              try simp only [Act.put, List.setIfInBounds_toArray, List.set_cons_zero, List.set_cons_succ]
              refine rt_free 12 (v := ?_) rfl (by kernel_rfl) (by kernel_rfl) (by kernel_rfl) (by kernel_rfl) (fun _ _ _ h => h) (by rfl) (fun _ => by first | assumption | exact HS0 _ rfl | exact HT.out _ (by repeat (first | exact Fr.refl _ _ | apply Fr.drew | refine Fr.alloc ?_ _))) ?_ ?_
              rotate_left 1
              · intro w; go_simp <;> with_reducible rfl
              try simp only [Act.put, List.setIfInBounds_toArray, List.set_cons_zero, List.set_cons_succ]
              refine rt_one 14 rfl (by kernel_rfl) (fun K hK => ?_)
              have b0 := Blk.cell hBg 0
              have b1 := Blk.cell hBg 1
              have b2 := Blk.cell hBg 2
              have b3 := Blk.cell hBg 3
              have b4 := Blk.cell hBg 4
              have bf := Blk.frozen hBg
              simp only [List.getElem?_toArray, List.getElem?_cons_zero, List.getElem?_cons_succ] at b0 b1 b2 b3 b4
              go_simp
              replace hRi := set5_R hRi hBg (by decide) (.int .i64 r.1.1) (.int .i64 r.1.2) (.int .i64 r.2.1) (.slice Ai r.2.2.1.length ci) (.slice Ac r.2.2.2.length cc)
              replace hRc := set5_R hRc hBg (by decide) (.int .i64 r.1.1) (.int .i64 r.1.2) (.int .i64 r.2.1) (.slice Ai r.2.2.1.length ci) (.slice Ac r.2.2.2.length cc)
              replace hFr := set5_Fr hFr hg3 (.int .i64 r.1.1) (.int .i64 r.1.2) (.int .i64 r.2.1) (.slice Ai r.2.2.1.length ci) (.slice Ac r.2.2.2.length cc)
              replace hBg := set5 hBg (v0 := .int .i64 r.1.1) (v1 := .int .i64 r.1.2) (v2 := .int .i64 r.2.1) (v3 := .slice Ai r.2.2.1.length ci) (v4 := .slice Ac r.2.2.2.length cc)
              clear b0 b1 b2 b3 b4 bf
              generalize World.setCell _ _ _ = Wn at hRi hRc hBg hFr ⊢
              refine hK.out (At St) _ _ (fun _ h => h) (late_abs (by kernel_rfl)) ?_
              clear hK K
              try simp only [Act.put, List.setIfInBounds_toArray, List.set_cons_zero, List.set_cons_succ]
              refine rt_done (by kernel_rfl) ?_
              all_goals exact cont _ _ _ _ _ _ _ _ hRi hRc hBg hg3 hFr
            exact AllNextt.nil
            all_goals exact cont _ _ _ _ _ _ _ _ hRi hRc hBg hg3 hFr
          refine AllNextt.cons rfl (fun K hK => ?_) ?_
          · skip
            go_simp
            clear hBg
            have hg3 := hFr.size
            have hBg := Blk.new Wn 27 #[.int .i64 0, .int .i64 0, .int .i64 0, .slice none 0 0, .slice none 0 0]
            replace hRi := Kd.R_alloc hRi (.cells #[.int .i64 0, .int .i64 0, .int .i64 0, .slice none 0 0, .slice none 0 0] 27)
            replace hRc := Kd.R_alloc hRc (.cells #[.int .i64 0, .int .i64 0, .int .i64 0, .slice none 0 0, .slice none 0 0] 27)
            replace hFr := hFr.alloc (.cells #[.int .i64 0, .int .i64 0, .int .i64 0, .slice none 0 0, .slice none 0 0] 27)
            generalize Wn.heap.size = g3 at hBg hg3 ⊢
            generalize World.alloc _ _ = Wn at hRi hRc hBg hFr ⊢
            have hTn := HT.out _ hFr
            refine hK.out (At St) _ _ (fun _ h => h) (fun _ => by (assumption)) ?_
            clear hK K
            try simp only [Act.put, List.setIfInBounds_toArray, List.set_cons_zero, List.set_cons_succ]
            refine rt_one 7 rfl (by kernel_rfl) (fun K hK => ?_)
            obtain ⟨Ai, ci, Wn, hr, hRn, hgn⟩ := app_flat (P := Try.prog) idFlat (xs := r.2.2.1) (n := r.2.2.1.length) (c := cd) 24 24 _ 16 Try.underlying24 info_id rfl (by decide) (by decide) hRi (Kd.C_below HCi.out (hFr.below (fun _ _ h => h))) (fun k hk => Nat.le_trans hFr.size hk) hFr.size (by have := HB1.out; omega)
            refine step_builtin2 rfl rfl rfl rfl (bi_append hr) ?_
            replace hRc := Kd.R_over' hRc (Kd.R_typed hRi) (by decide) hgn
            replace hBg := blk_grown hBg hgn (Kd.R_ne hRi hBg (by decide))
            replace hFr := hFr.trans' (Fr.of_grown hgn) (fun i hi h => by have := Kd.R_base hRi i h.symm; omega)
            clear hRi
            have hRi := hRn
            clear hRn
            have hTn := HT.out _ hFr
            refine hK.out (At St) _ _ (fun _ h => h) (fun _ => by (assumption)) ?_
            clear hK K
            try simp only [Act.put, List.setIfInBounds_toArray, List.set_cons_zero, List.set_cons_succ]
            refine rt_one 11 rfl (by kernel_rfl) (fun K hK => ?_)
            obtain ⟨Ac, cc, Wn, hr, hRn, hgn⟩ := app_flat (P := Try.prog) cmdFlat (xs := r.2.2.2) (n := r.2.2.2.length) (c := cb) 25 25 _ 32 Try.underlying25 info_cmd rfl (by decide) (by decide) hRc (Kd.C_below HCc.out (hFr.below (fun _ _ h => h))) (fun k hk => Nat.le_trans hFr.size hk) hFr.size (by have := HB2.out; omega)
            refine step_builtin2 rfl rfl rfl rfl (bi_append hr) ?_
            replace hRi := Kd.R_over' hRi (Kd.R_typed hRc) (by decide) hgn
            replace hBg := blk_grown hBg hgn (Kd.R_ne hRc hBg (by decide))
            replace hFr := hFr.trans' (Fr.of_grown hgn) (fun i hi h => by have := Kd.R_base hRc i h.symm; omega)
            clear hRc
            have hRc := hRn
            clear hRn
            have hTn := HT.out _ hFr
            refine hK.out (At St) _ _ (fun _ h => h) (fun _ => by (assumption)) ?_
            clear hK K
            try simp only [Act.put, List.setIfInBounds_toArray, List.set_cons_zero, List.set_cons_succ]
            refine rt_free 12 (v := ?_) rfl (by kernel_rfl) (by kernel_rfl) (by kernel_rfl) (by kernel_rfl) (fun _ _ _ h => h) (by rfl) (fun _ => by first | assumption | exact HS0 _ rfl | exact HT.out _ (by repeat (first | exact Fr.refl _ _ | apply Fr.drew | refine Fr.alloc ?_ _))) ?_ ?_
            rotate_left 1
            · intro w; go_simp <;> with_reducible rfl
            try simp only [Act.put, List.setIfInBounds_toArray, List.set_cons_zero, List.set_cons_succ]
            refine rt_one 14 rfl (by kernel_rfl) (fun K hK => ?_)
            have b0 := Blk.cell hBg 0
            have b1 := Blk.cell hBg 1
            have b2 := Blk.cell hBg 2
            have b3 := Blk.cell hBg 3
            have b4 := Blk.cell hBg 4
            have bf := Blk.frozen hBg
            simp only [List.getElem?_toArray, List.getElem?_cons_zero, List.getElem?_cons_succ] at b0 b1 b2 b3 b4
            go_simp
            replace hRi := set5_R hRi hBg (by decide) (.int .i64 r.1.1) (.int .i64 r.1.2) (.int .i64 r.2.1) (.slice Ai r.2.2.1.length ci) (.slice Ac r.2.2.2.length cc)
            replace hRc := set5_R hRc hBg (by decide) (.int .i64 r.1.1) (.int .i64 r.1.2) (.int .i64 r.2.1) (.slice Ai r.2.2.1.length ci) (.slice Ac r.2.2.2.length cc)
            replace hFr := set5_Fr hFr hg3 (.int .i64 r.1.1) (.int .i64 r.1.2) (.int .i64 r.2.1) (.slice Ai r.2.2.1.length ci) (.slice Ac r.2.2.2.length cc)
            replace hBg := set5 hBg (v0 := .int .i64 r.1.1) (v1 := .int .i64 r.1.2) (v2 := .int .i64 r.2.1) (v3 := .slice Ai r.2.2.1.length ci) (v4 := .slice Ac r.2.2.2.length cc)
            clear b0 b1 b2 b3 b4 bf
            generalize World.setCell _ _ _ = Wn at hRi hRc hBg hFr ⊢
            refine hK.out (At St) _ _ (fun _ h => h) (late_abs (by kernel_rfl)) ?_
            clear hK K
            try simp only [Act.put, List.setIfInBounds_toArray, List.set_cons_zero, List.set_cons_succ]
            refine rt_done (by kernel_rfl) ?_
            all_goals exact cont _ _ _ _ _ _ _ _ hRi hRc hBg hg3 hFr
          exact AllNextt.nil
          all_goals exact cont _ _ _ _ _ _ _ _ hRi hRc hBg hg3 hFr
        refine AllNextt.cons rfl (fun K hK => ?_) ?_
        · skip
          go_simp
          clear hBg
          have hg3 := hFr.size
          have hBg := Blk.new Wn 27 #[.int .i64 0, .int .i64 0, .int .i64 0, .slice none 0 0, .slice none 0 0]
          replace hRi := Kd.R_alloc hRi (.cells #[.int .i64 0, .int .i64 0, .int .i64 0, .slice none 0 0, .slice none 0 0] 27)
          replace hRc := Kd.R_alloc hRc (.cells #[.int .i64 0, .int .i64 0, .int .i64 0, .slice none 0 0, .slice none 0 0] 27)
          replace hFr := hFr.alloc (.cells #[.int .i64 0, .int .i64 0, .int .i64 0, .slice none 0 0, .slice none 0 0] 27)
          generalize Wn.heap.size = g3 at hBg hg3 ⊢
          generalize World.alloc _ _ = Wn at hRi hRc hBg hFr ⊢
          have hTn := HT.out _ hFr
          refine hK.out (At St) _ _ (fun _ h => h) (fun _ => by (assumption)) ?_
          clear hK K
          try simp only [Act.put, List.setIfInBounds_toArray, List.set_cons_zero, List.set_cons_succ]
          refine rt_one 4 rfl (by kernel_rfl) (fun K hK => ?_)
          go_simp
          have hn := Kd.R_mono (Kd.R_lower (R_empty idK 23 _) hFr.size) (ok' := fun k => w1.heap.size ≤ k) (fun k hk => Nat.le_trans hFr.size hk)
          replace hRc := Kd.R_alloc hRc (.cells #[] 23)
          replace hBg := Blk.alloc hBg (.cells #[] 23)
          replace hFr := hFr.alloc (.cells #[] 23)
          clear hRi
          have hRi := hn
          clear hn
          generalize Wn.heap.size = gi at hRi ⊢
          generalize World.alloc _ _ = Wn at hRi hRc hBg hFr ⊢
          have hTn := HT.out _ hFr
          refine hK.out (At St) _ _ (fun _ h => h) (fun _ => by (assumption)) ?_
          clear hK K
          try simp only [Act.put, List.setIfInBounds_toArray, List.set_cons_zero, List.set_cons_succ]
          refine rt_one 7 rfl (by kernel_rfl) (fun K hK => ?_)
          obtain ⟨Ai, ci, Wn, hr, hRn, hgn⟩ := app_flat (P := Try.prog) idFlat (xs := r.2.2.1) (n := r.2.2.1.length) (c := cd) 24 24 _ 16 Try.underlying24 info_id rfl (by decide) (by decide) hRi (Kd.C_below HCi.out (hFr.below (fun _ _ h => h))) (fun k hk => Nat.le_trans hFr.size hk) hFr.size (by have := HB1.out; omega)
          refine step_builtin2 rfl rfl rfl rfl (bi_append hr) ?_
          replace hRc := Kd.R_over' hRc (Kd.R_typed hRi) (by decide) hgn
          replace hBg := blk_grown hBg hgn (Kd.R_ne hRi hBg (by decide))
          replace hFr := hFr.trans' (Fr.of_grown hgn) (fun i hi h => by have := Kd.R_base hRi i h.symm; omega)
          clear hRi
          have hRi := hRn
          clear hRn
          have hTn := HT.out _ hFr
          refine hK.out (At St) _ _ (fun _ h => h) (fun _ => by (assumption)) ?_
          clear hK K
          try simp only [Act.put, List.setIfInBounds_toArray, List.set_cons_zero, List.set_cons_succ]
          refine rt_one 11 rfl (by kernel_rfl) (fun K hK => ?_)
          obtain ⟨Ac, cc, Wn, hr, hRn, hgn⟩ := app_flat (P := Try.prog) cmdFlat (xs := r.2.2.2) (n := r.2.2.2.length) (c := cb) 25 25 _ 32 Try.underlying25 info_cmd rfl (by decide) (by decide) hRc (Kd.C_below HCc.out (hFr.below (fun _ _ h => h))) (fun k hk => Nat.le_trans hFr.size hk) hFr.size (by have := HB2.out; omega)
          refine step_builtin2 rfl rfl rfl rfl (bi_append hr) ?_
          replace hRi := Kd.R_over' hRi (Kd.R_typed hRc) (by decide) hgn
          replace hBg := blk_grown hBg hgn (Kd.R_ne hRc hBg (by decide))
          replace hFr := hFr.trans' (Fr.of_grown hgn) (fun i hi h => by have := Kd.R_base hRc i h.symm; omega)
          clear hRc
          have hRc := hRn
          clear hRn
          have hTn := HT.out _ hFr
          refine hK.out (At St) _ _ (fun _ h => h) (fun _ => by (assumption)) ?_
          clear hK K
          try simp only [Act.put, List.setIfInBounds_toArray, List.set_cons_zero, List.set_cons_succ]
          refine rt_free 12 (v := ?_) rfl (by kernel_rfl) (by kernel_rfl) (by kernel_rfl) (by kernel_rfl) (fun _ _ _ h => h) (by rfl) (fun _ => by first | assumption | exact HS0 _ rfl | exact HT.out _ (by repeat (first | exact Fr.refl _ _ | apply Fr.drew | refine Fr.alloc ?_ _))) ?_ ?_
          rotate_left 1
          · intro w; go_simp <;> with_reducible rfl
          try simp only [Act.put, List.setIfInBounds_toArray, List.set_cons_zero, List.set_cons_succ]
          refine rt_one 14 rfl (by kernel_rfl) (fun K hK => ?_)
          have b0 := Blk.cell hBg 0
          have b1 := Blk.cell hBg 1
          have b2 := Blk.cell hBg 2
          have b3 := Blk.cell hBg 3
          have b4 := Blk.cell hBg 4
          have bf := Blk.frozen hBg
          simp only [List.getElem?_toArray, List.getElem?_cons_zero, List.getElem?_cons_succ] at b0 b1 b2 b3 b4
          go_simp
          replace hRi := set5_R hRi hBg (by decide) (.int .i64 r.1.1) (.int .i64 r.1.2) (.int .i64 r.2.1) (.slice Ai r.2.2.1.length ci) (.slice Ac r.2.2.2.length cc)
          replace hRc := set5_R hRc hBg (by decide) (.int .i64 r.1.1) (.int .i64 r.1.2) (.int .i64 r.2.1) (.slice Ai r.2.2.1.length ci) (.slice Ac r.2.2.2.length cc)
          replace hFr := set5_Fr hFr hg3 (.int .i64 r.1.1) (.int .i64 r.1.2) (.int .i64 r.2.1) (.slice Ai r.2.2.1.length ci) (.slice Ac r.2.2.2.length cc)
          replace hBg := set5 hBg (v0 := .int .i64 r.1.1) (v1 := .int .i64 r.1.2) (v2 := .int .i64 r.2.1) (v3 := .slice Ai r.2.2.1.length ci) (v4 := .slice Ac r.2.2.2.length cc)
          clear b0 b1 b2 b3 b4 bf
          generalize World.setCell _ _ _ = Wn at hRi hRc hBg hFr ⊢
          refine hK.out (At St) _ _ (fun _ h => h) (late_abs (by kernel_rfl)) ?_
          clear hK K
          try simp only [Act.put, List.setIfInBounds_toArray, List.set_cons_zero, List.set_cons_succ]
          refine rt_done (by kernel_rfl) ?_
          all_goals exact cont _ _ _ _ _ _ _ _ hRi hRc hBg hg3 hFr
        exact AllNextt.nil
        all_goals exact cont _ _ _ _ _ _ _ _ hRi hRc hBg hg3 hFr
      refine AllNextt.cons rfl (fun K hK => ?_) ?_
      · skip
        go_simp
        clear hBg
        have hg3 := hFr.size
        have hBg := Blk.new Wn 27 #[.int .i64 0, .int .i64 0, .int .i64 0, .slice none 0 0, .slice none 0 0]
        replace hRi := Kd.R_alloc hRi (.cells #[.int .i64 0, .int .i64 0, .int .i64 0, .slice none 0 0, .slice none 0 0] 27)
        replace hRc := Kd.R_alloc hRc (.cells #[.int .i64 0, .int .i64 0, .int .i64 0, .slice none 0 0, .slice none 0 0] 27)
        replace hFr := hFr.alloc (.cells #[.int .i64 0, .int .i64 0, .int .i64 0, .slice none 0 0, .slice none 0 0] 27)
        generalize Wn.heap.size = g3 at hBg hg3 ⊢
        generalize World.alloc _ _ = Wn at hRi hRc hBg hFr ⊢
        have hTn := HT.out _ hFr
        refine hK.out (At St) _ _ (fun _ h => h) (fun _ => by (assumption)) ?_
        clear hK K
        try simp only [Act.put, List.setIfInBounds_toArray, List.set_cons_zero, List.set_cons_succ]
        refine rt_ready [4, 8] (by kernel_rfl) (by simp) ?_
        refine AllNextt.cons rfl (fun K hK => ?_) ?_
        · skip
          go_simp
          have hn := Kd.R_mono (Kd.R_lower (R_empty idK 23 _) hFr.size) (ok' := fun k => w1.heap.size ≤ k) (fun k hk => Nat.le_trans hFr.size hk)
          replace hRc := Kd.R_alloc hRc (.cells #[] 23)
          replace hBg := Blk.alloc hBg (.cells #[] 23)
          replace hFr := hFr.alloc (.cells #[] 23)
          clear hRi
          have hRi := hn
          clear hn
          generalize Wn.heap.size = gi at hRi ⊢
          generalize World.alloc _ _ = Wn at hRi hRc hBg hFr ⊢
          have hTn := HT.out _ hFr
          refine hK.out (At St) _ _ (fun _ h => h) (fun _ => by (assumption)) ?_
          clear hK K
          try simp only [Act.put, List.setIfInBounds_toArray, List.set_cons_zero, List.set_cons_succ]
          refine rt_ready [7, 8] (by kernel_rfl) (by simp) ?_
          refine AllNextt.cons rfl (fun K hK => ?_) ?_
          · skip
            obtain ⟨Ai, ci, Wn, hr, hRn, hgn⟩ := app_flat (P := Try.prog) idFlat (xs := r.2.2.1) (n := r.2.2.1.length) (c := cd) 24 24 _ 16 Try.underlying24 info_id rfl (by decide) (by decide) hRi (Kd.C_below HCi.out (hFr.below (fun _ _ h => h))) (fun k hk => Nat.le_trans hFr.size hk) hFr.size (by have := HB1.out; omega)
            refine step_builtin2 rfl rfl rfl rfl (bi_append hr) ?_
            replace hRc := Kd.R_over' hRc (Kd.R_typed hRi) (by decide) hgn
            replace hBg := blk_grown hBg hgn (Kd.R_ne hRi hBg (by decide))
            replace hFr := hFr.trans' (Fr.of_grown hgn) (fun i hi h => by have := Kd.R_base hRi i h.symm; omega)
            clear hRi
            have hRi := hRn
            clear hRn
            have hTn := HT.out _ hFr
            refine hK.out (At St) _ _ (fun _ h => h) (fun _ => by (assumption)) ?_
            clear hK K
            try simp only [Act.put, List.setIfInBounds_toArray, List.set_cons_zero, List.set_cons_succ]
            refine rt_one 8 rfl (by kernel_rfl) (fun K hK => ?_)
            go_simp
            have hn := Kd.R_mono (Kd.R_lower (R_empty cmdK 36 _) hFr.size) (ok' := fun k => w1.heap.size ≤ k) (fun k hk => Nat.le_trans hFr.size hk)
            replace hRi := Kd.R_alloc hRi (.cells #[] 36)
            replace hBg := Blk.alloc hBg (.cells #[] 36)
            replace hFr := hFr.alloc (.cells #[] 36)
            clear hRc
            have hRc := hn
            clear hn
            generalize Wn.heap.size = gi at hRc ⊢
            generalize World.alloc _ _ = Wn at hRi hRc hBg hFr ⊢
            have hTn := HT.out _ hFr
            refine hK.out (At St) _ _ (fun _ h => h) (fun _ => by (assumption)) ?_
            clear hK K
            try simp only [Act.put, List.setIfInBounds_toArray, List.set_cons_zero, List.set_cons_succ]
            refine rt_one 11 rfl (by kernel_rfl) (fun K hK => ?_)
            obtain ⟨Ac, cc, Wn, hr, hRn, hgn⟩ := app_flat (P := Try.prog) cmdFlat (xs := r.2.2.2) (n := r.2.2.2.length) (c := cb) 25 25 _ 32 Try.underlying25 info_cmd rfl (by decide) (by decide) hRc (Kd.C_below HCc.out (hFr.below (fun _ _ h => h))) (fun k hk => Nat.le_trans hFr.size hk) hFr.size (by have := HB2.out; omega)
            refine step_builtin2 rfl rfl rfl rfl (bi_append hr) ?_
            replace hRi := Kd.R_over' hRi (Kd.R_typed hRc) (by decide) hgn
            replace hBg := blk_grown hBg hgn (Kd.R_ne hRc hBg (by decide))
            replace hFr := hFr.trans' (Fr.of_grown hgn) (fun i hi h => by have := Kd.R_base hRc i h.symm; omega)
            clear hRc
            have hRc := hRn
            clear hRn
            have hTn := HT.out _ hFr
            refine hK.out (At St) _ _ (fun _ h => h) (fun _ => by (assumption)) ?_
            clear hK K
            try simp only [Act.put, List.setIfInBounds_toArray, List.set_cons_zero, List.set_cons_succ]
            refine rt_free 12 (v := ?_) rfl (by kernel_rfl) (by kernel_rfl) (by kernel_rfl) (by kernel_rfl) (fun _ _ _ h => h) (by rfl) (fun _ => by first | assumption | exact HS0 _ rfl | exact HT.out _ (by repeat (first | exact Fr.refl _ _ | apply Fr.drew | refine Fr.alloc ?_ _))) ?_ ?_
            rotate_left 1
            · intro w; go_simp <;> with_reducible rfl
            try simp only [Act.put, List.setIfInBounds_toArray, List.set_cons_zero, List.set_cons_succ]
            refine rt_one 14 rfl (by kernel_rfl) (fun K hK => ?_)
            have b0 := Blk.cell hBg 0
            have b1 := Blk.cell hBg 1
            have b2 := Blk.cell hBg 2
            have b3 := Blk.cell hBg 3
            have b4 := Blk.cell hBg 4
            have bf := Blk.frozen hBg
            simp only [List.getElem?_toArray, List.getElem?_cons_zero, List.getElem?_cons_succ] at b0 b1 b2 b3 b4
            go_simp
            replace hRi := set5_R hRi hBg (by decide) (.int .i64 r.1.1) (.int .i64 r.1.2) (.int .i64 r.2.1) (.slice Ai r.2.2.1.length ci) (.slice Ac r.2.2.2.length cc)
            replace hRc := set5_R hRc hBg (by decide) (.int .i64 r.1.1) (.int .i64 r.1.2) (.int .i64 r.2.1) (.slice Ai r.2.2.1.length ci) (.slice Ac r.2.2.2.length cc)
            replace hFr := set5_Fr hFr hg3 (.int .i64 r.1.1) (.int .i64 r.1.2) (.int .i64 r.2.1) (.slice Ai r.2.2.1.length ci) (.slice Ac r.2.2.2.length cc)
            replace hBg := set5 hBg (v0 := .int .i64 r.1.1) (v1 := .int .i64 r.1.2) (v2 := .int .i64 r.2.1) (v3 := .slice Ai r.2.2.1.length ci) (v4 := .slice Ac r.2.2.2.length cc)
            clear b0 b1 b2 b3 b4 bf
            generalize World.setCell _ _ _ = Wn at hRi hRc hBg hFr ⊢
            refine hK.out (At St) _ _ (fun _ h => h) (late_abs (by kernel_rfl)) ?_
            clear hK K
            try simp only [Act.put, List.setIfInBounds_toArray, List.set_cons_zero, List.set_cons_succ]
            refine rt_done (by kernel_rfl) ?_
            all_goals exact cont _ _ _ _ _ _ _ _ hRi hRc hBg hg3 hFr
          refine AllNextt.cons rfl (fun K hK => ?_) ?_
          · skip
            go_simp
            have hn := Kd.R_mono (Kd.R_lower (R_empty cmdK 36 _) hFr.size) (ok' := fun k => w1.heap.size ≤ k) (fun k hk => Nat.le_trans hFr.size hk)
            replace hRi := Kd.R_alloc hRi (.cells #[] 36)
            replace hBg := Blk.alloc hBg (.cells #[] 36)
            replace hFr := hFr.alloc (.cells #[] 36)
            clear hRc
            have hRc := hn
            clear hn
            generalize Wn.heap.size = gi at hRc ⊢
            generalize World.alloc _ _ = Wn at hRi hRc hBg hFr ⊢
            have hTn := HT.out _ hFr
            refine hK.out (At St) _ _ (fun _ h => h) (fun _ => by (assumption)) ?_
            clear hK K
            try simp only [Act.put, List.setIfInBounds_toArray, List.set_cons_zero, List.set_cons_succ]
            refine rt_one 7 rfl (by kernel_rfl) (fun K hK => ?_)
            obtain ⟨Ai, ci, Wn, hr, hRn, hgn⟩ := app_flat (P := Try.prog) idFlat (xs := r.2.2.1) (n := r.2.2.1.length) (c := cd) 24 24 _ 16 Try.underlying24 info_id rfl (by decide) (by decide) hRi (Kd.C_below HCi.out (hFr.below (fun _ _ h => h))) (fun k hk => Nat.le_trans hFr.size hk) hFr.size (by have := HB1.out; omega)
            refine step_builtin2 rfl rfl rfl rfl (bi_append hr) ?_
            replace hRc := Kd.R_over' hRc (Kd.R_typed hRi) (by decide) hgn
            replace hBg := blk_grown hBg hgn (Kd.R_ne hRi hBg (by decide))
            replace hFr := hFr.trans' (Fr.of_grown hgn) (fun i hi h => by have := Kd.R_base hRi i h.symm; omega)
            clear hRi
            have hRi := hRn
            clear hRn
            have hTn := HT.out _ hFr
            refine hK.out (At St) _ _ (fun _ h => h) (fun _ => by (assumption)) ?_
            clear hK K
            try simp only [Act.put, List.setIfInBounds_toArray, List.set_cons_zero, List.set_cons_succ]
            refine rt_one 11 rfl (by kernel_rfl) (fun K hK => ?_)
            obtain ⟨Ac, cc, Wn, hr, hRn, hgn⟩ := app_flat (P := Try.prog) cmdFlat (xs := r.2.2.2) (n := r.2.2.2.length) (c := cb) 25 25 _ 32 Try.underlying25 info_cmd rfl (by decide) (by decide) hRc (Kd.C_below HCc.out (hFr.below (fun _ _ h => h))) (fun k hk => Nat.le_trans hFr.size hk) hFr.size (by have := HB2.out; omega)
            refine step_builtin2 rfl rfl rfl rfl (bi_append hr) ?_
            replace hRi := Kd.R_over' hRi (Kd.R_typed hRc) (by decide) hgn
            replace hBg := blk_grown hBg hgn (Kd.R_ne hRc hBg (by decide))
            replace hFr := hFr.trans' (Fr.of_grown hgn) (fun i hi h => by have := Kd.R_base hRc i h.symm; omega)
            clear hRc
            have hRc := hRn
            clear hRn
            have hTn := HT.out _ hFr
            refine hK.out (At St) _ _ (fun _ h => h) (fun _ => by (assumption)) ?_
            clear hK K
            try simp only [Act.put, List.setIfInBounds_toArray, List.set_cons_zero, List.set_cons_succ]
            refine rt_free 12 (v := ?_) rfl (by kernel_rfl) (by kernel_rfl) (by kernel_rfl) (by kernel_rfl) (fun _ _ _ h => h) (by rfl) (fun _ => by first | assumption | exact HS0 _ rfl | exact HT.out _ (by repeat (first | exact Fr.refl _ _ | apply Fr.drew | refine Fr.alloc ?_ _))) ?_ ?_
            rotate_left 1
            · intro w; go_simp <;> with_reducible rfl
            try simp only [Act.put, List.setIfInBounds_toArray, List.set_cons_zero, List.set_cons_succ]
            refine rt_one 14 rfl (by kernel_rfl) (fun K hK => ?_)
            have b0 := Blk.cell hBg 0
            have b1 := Blk.cell hBg 1
            have b2 := Blk.cell hBg 2
            have b3 := Blk.cell hBg 3
            have b4 := Blk.cell hBg 4
            have bf := Blk.frozen hBg
            simp only [List.getElem?_toArray, List.getElem?_cons_zero, List.getElem?_cons_succ] at b0 b1 b2 b3 b4
            go_simp
            replace hRi := set5_R hRi hBg (by decide) (.int .i64 r.1.1) (.int .i64 r.1.2) (.int .i64 r.2.1) (.slice Ai r.2.2.1.length ci) (.slice Ac r.2.2.2.length cc)
            replace hRc := set5_R hRc hBg (by decide) (.int .i64 r.1.1) (.int .i64 r.1.2) (.int .i64 r.2.1) (.slice Ai r.2.2.1.length ci) (.slice Ac r.2.2.2.length cc)
            replace hFr := set5_Fr hFr hg3 (.int .i64 r.1.1) (.int .i64 r.1.2) (.int .i64 r.2.1) (.slice Ai r.2.2.1.length ci) (.slice Ac r.2.2.2.length cc)
            replace hBg := set5 hBg (v0 := .int .i64 r.1.1) (v1 := .int .i64 r.1.2) (v2 := .int .i64 r.2.1) (v3 := .slice Ai r.2.2.1.length ci) (v4 := .slice Ac r.2.2.2.length cc)
            clear b0 b1 b2 b3 b4 bf
            generalize World.setCell _ _ _ = Wn at hRi hRc hBg hFr ⊢
            refine hK.out (At St) _ _ (fun _ h => h) (late_abs (by kernel_rfl)) ?_
            clear hK K
            try simp only [Act.put, List.setIfInBounds_toArray, List.set_cons_zero, List.set_cons_succ]
            refine rt_done (by kernel_rfl) ?_
            all_goals exact cont _ _ _ _ _ _ _ _ hRi hRc hBg hg3 hFr
          exact AllNextt.nil
          all_goals exact cont _ _ _ _ _ _ _ _ hRi hRc hBg hg3 hFr
        refine AllNextt.cons rfl (fun K hK => ?_) ?_
        · skip
          go_simp
          have hn := Kd.R_mono (Kd.R_lower (R_empty cmdK 36 _) hFr.size) (ok' := fun k => w1.heap.size ≤ k) (fun k hk => Nat.le_trans hFr.size hk)
          replace hRi := Kd.R_alloc hRi (.cells #[] 36)
          replace hBg := Blk.alloc hBg (.cells #[] 36)
          replace hFr := hFr.alloc (.cells #[] 36)
          clear hRc
          have hRc := hn
          clear hn
          generalize Wn.heap.size = gi at hRc ⊢
          generalize World.alloc _ _ = Wn at hRi hRc hBg hFr ⊢
          have hTn := HT.out _ hFr
          refine hK.out (At St) _ _ (fun _ h => h) (fun _ => by (assumption)) ?_
          clear hK K
          try simp only [Act.put, List.setIfInBounds_toArray, List.set_cons_zero, List.set_cons_succ]
          refine rt_one 4 rfl (by kernel_rfl) (fun K hK => ?_)
          go_simp
          have hn := Kd.R_mono (Kd.R_lower (R_empty idK 23 _) hFr.size) (ok' := fun k => w1.heap.size ≤ k) (fun k hk => Nat.le_trans hFr.size hk)
          replace hRc := Kd.R_alloc hRc (.cells #[] 23)
          replace hBg := Blk.alloc hBg (.cells #[] 23)
          replace hFr := hFr.alloc (.cells #[] 23)
          clear hRi
          have hRi := hn
          clear hn
          generalize Wn.heap.size = gi at hRi ⊢
          generalize World.alloc _ _ = Wn at hRi hRc hBg hFr ⊢
          have hTn := HT.out _ hFr
          refine hK.out (At St) _ _ (fun _ h => h) (fun _ => by (assumption)) ?_
          clear hK K
          try simp only [Act.put, List.setIfInBounds_toArray, List.set_cons_zero, List.set_cons_succ]
          refine rt_one 7 rfl (by kernel_rfl) (fun K hK => ?_)
          obtain ⟨Ai, ci, Wn, hr, hRn, hgn⟩ := app_flat (P := Try.prog) idFlat (xs := r.2.2.1) (n := r.2.2.1.length) (c := cd) 24 24 _ 16 Try.underlying24 info_id rfl (by decide) (by decide) hRi (Kd.C_below HCi.out (hFr.below (fun _ _ h => h))) (fun k hk => Nat.le_trans hFr.size hk) hFr.size (by have := HB1.out; omega)
          refine step_builtin2 rfl rfl rfl rfl (bi_append hr) ?_
          replace hRc := Kd.R_over' hRc (Kd.R_typed hRi) (by decide) hgn
          replace hBg := blk_grown hBg hgn (Kd.R_ne hRi hBg (by decide))
          replace hFr := hFr.trans' (Fr.of_grown hgn) (fun i hi h => by have := Kd.R_base hRi i h.symm; omega)
          clear hRi
          have hRi := hRn
          clear hRn
          have hTn := HT.out _ hFr
          refine hK.out (At St) _ _ (fun _ h => h) (fun _ => by (assumption)) ?_
          clear hK K
          try simp only [Act.put, List.setIfInBounds_toArray, List.set_cons_zero, List.set_cons_succ]
          refine rt_one 11 rfl (by kernel_rfl) (fun K hK => ?_)
          obtain ⟨Ac, cc, Wn, hr, hRn, hgn⟩ := app_flat (P := Try.prog) cmdFlat (xs := r.2.2.2) (n := r.2.2.2.length) (c := cb) 25 25 _ 32 Try.underlying25 info_cmd rfl (by decide) (by decide) hRc (Kd.C_below HCc.out (hFr.below (fun _ _ h => h))) (fun k hk => Nat.le_trans hFr.size hk) hFr.size (by have := HB2.out; omega)
          refine step_builtin2 rfl rfl rfl rfl (bi_append hr) ?_
          replace hRi := Kd.R_over' hRi (Kd.R_typed hRc) (by decide) hgn
          replace hBg := blk_grown hBg hgn (Kd.R_ne hRc hBg (by decide))
          replace hFr := hFr.trans' (Fr.of_grown hgn) (fun i hi h => by have := Kd.R_base hRc i h.symm; omega)
          clear hRc
          have hRc := hRn
          clear hRn
          have hTn := HT.out _ hFr
          refine hK.out (At St) _ _ (fun _ h => h) (fun _ => by (assumption)) ?_
          clear hK K
          try simp only [Act.put, List.setIfInBounds_toArray, List.set_cons_zero, List.set_cons_succ]
          refine rt_free 12 (v := ?_) rfl (by kernel_rfl) (by kernel_rfl) (by kernel_rfl) (by kernel_rfl) (fun _ _ _ h => h) (by rfl) (fun _ => by first | assumption | exact HS0 _ rfl | exact HT.out _ (by repeat (first | exact Fr.refl _ _ | apply Fr.drew | refine Fr.alloc ?_ _))) ?_ ?_
          rotate_left 1
          · intro w; go_simp <;> with_reducible rfl
          try simp only [Act.put, List.setIfInBounds_toArray, List.set_cons_zero, List.set_cons_succ]
          refine rt_one 14 rfl (by kernel_rfl) (fun K hK => ?_)
          have b0 := Blk.cell hBg 0
          have b1 := Blk.cell hBg 1
          have b2 := Blk.cell hBg 2
          have b3 := Blk.cell hBg 3
          have b4 := Blk.cell hBg 4
          have bf := Blk.frozen hBg
          simp only [List.getElem?_toArray, List.getElem?_cons_zero, List.getElem?_cons_succ] at b0 b1 b2 b3 b4
          go_simp
          replace hRi := set5_R hRi hBg (by decide) (.int .i64 r.1.1) (.int .i64 r.1.2) (.int .i64 r.2.1) (.slice Ai r.2.2.1.length ci) (.slice Ac r.2.2.2.length cc)
          replace hRc := set5_R hRc hBg (by decide) (.int .i64 r.1.1) (.int .i64 r.1.2) (.int .i64 r.2.1) (.slice Ai r.2.2.1.length ci) (.slice Ac r.2.2.2.length cc)
          replace hFr := set5_Fr hFr hg3 (.int .i64 r.1.1) (.int .i64 r.1.2) (.int .i64 r.2.1) (.slice Ai r.2.2.1.length ci) (.slice Ac r.2.2.2.length cc)
          replace hBg := set5 hBg (v0 := .int .i64 r.1.1) (v1 := .int .i64 r.1.2) (v2 := .int .i64 r.2.1) (v3 := .slice Ai r.2.2.1.length ci) (v4 := .slice Ac r.2.2.2.length cc)
          clear b0 b1 b2 b3 b4 bf
          generalize World.setCell _ _ _ = Wn at hRi hRc hBg hFr ⊢
          refine hK.out (At St) _ _ (fun _ h => h) (late_abs (by kernel_rfl)) ?_
          clear hK K
          try simp only [Act.put, List.setIfInBounds_toArray, List.set_cons_zero, List.set_cons_succ]
          refine rt_done (by kernel_rfl) ?_
          all_goals exact cont _ _ _ _ _ _ _ _ hRi hRc hBg hg3 hFr
        exact AllNextt.nil
        all_goals exact cont _ _ _ _ _ _ _ _ hRi hRc hBg hg3 hFr
      exact AllNextt.nil
end Go.Proofs.Ytckcdgmcoomngaa
