/- Texts of Cod, merged (21 of 27): RCmd. -/
import Derived.Test.YtelfpnpplknlpaaGCod20
set_option linter.unusedVariables false
set_option linter.unusedSimpArgs false
/- The reference's source: a command. -/
namespace Go.Proofs.Ytelfpnpplknlpaa
open Go.RowKit
open Go.Proofs.YtelfpnpplknlpaaW.PrintWords

/-- What the reading of a command ends in; its value may be another NaN. -/
def CEnd (w : World) (gs : Nat) (m : Rd Cmd) (r : Ending) (w' : World) : Prop := Fr (fun k => k = gs) w w' ∧ ∃ x : Cmd, r = .returned (cmdV x) ∧ x.2.2 < 18446744073709551616 ∧ match m with
  | .error e => RErr w' gs e
  | .ok (c, ys) => canonCmd x = c ∧ (hasV x.1.toNat = false → x.2.2 = 0) ∧ ∃ A c', RSrc w' gs A ys c'
theorem CEnd.err {w w' : World} {gs : Nat} {m : Rd Cmd} {e : Int} {r : Ending} {x : Cmd} (hm : m = .error e) (hF : Fr (fun k => k = gs) w w') (hr : r = .returned (cmdV x)) (hx : x.2.2 < 18446744073709551616) (h : RErr w' gs e) : CEnd w gs m r w' := by subst hm; exact ⟨hF, x, hr, hx, h⟩
theorem CEnd.ok {w w' : World} {gs : Nat} {m : Rd Cmd} {c : Cmd} {ys : List Int} {r : Ending} {x : Cmd} {A : Option Addr} {c' : Nat} (hm : m = .ok (c, ys)) (hF : Fr (fun k => k = gs) w w') (hr : r = .returned (cmdV x)) (hx : x.2.2 < 18446744073709551616) (hc : canonCmd x = c) (hv : hasV x.1.toNat = false → x.2.2 = 0) (hs : RSrc w' gs A ys c') : CEnd w gs m r w' := by subst hm; exact ⟨hF, x, hr, hx, hc, hv, A, c', hs⟩
theorem RErr.cell1 {w : World} {gs : Nat} {e : Int} (h : RErr w gs e) : w.cell? ⟨gs, 1, none⟩ = some (.int .i64 e) := by obtain ⟨_, A, n, c, hb⟩ := h; exact hb.cell 1
theorem RSrc.cell1 {w : World} {gs c : Nat} {A : Option Addr} {xs : List Int} (h : RSrc w gs A xs c) : w.cell? ⟨gs, 1, none⟩ = some (.int .i64 0) := h.blk.cell 1
set_option maxRecDepth 100000 in
set_option maxHeartbeats 4000000 in
theorem rs_cmd (gs : Nat) (A : Option Addr) (xs : List Int) (c : Nat) (w : World) (h : RSrc w gs A xs c) :
    Calls Try.prog 20 #[.pointer (some ⟨gs, 0, none⟩)] w (CEnd w gs (cmdR xs)) := by
  have hF0 := (Fr.refl (fun _ => False) w).alloc (.cells #[.int .i64 0, .string { data := #[] }, .float .f64 0] 58)
  have hB0 := Blk.new w 58 #[.int .i64 0, .string { data := #[] }, .float .f64 0]
  have HS := Lib.hid (h.fr (hF0.mono (fun _ _ h => h.elim)))
  have HF0 := Lib.hid hF0
  have HB0 := Lib.hid hB0
  have HL := Lib.hid h.blk.lt
  have hdef : cmdR xs = thenR (numR xs) fun k ys => if k < 1 ∨ 4 < k then .error 12 else thenR (keyR ys) fun s zs => if hasV k then thenR (valR zs) fun v us => .ok (((k : Int), s, v), us) else .ok (((k : Int), s, 0), zs) := rfl
  have HD := Lib.hid hdef
  have hv : ∀ n : Nat, hasV n = (((n : Int) == 2) || ((n : Int) == 4)) := fun n => by
    unfold hasV
    have e1 : ((n : Int) == 2) = (n == 2) := by rw [Bool.eq_iff_iff]; simp; omega
    have e2 : ((n : Int) == 4) = (n == 4) := by rw [Bool.eq_iff_iff]; simp; omega
    rw [e1, e2]
  have HV := Lib.hid hv
  clear h hF0 hB0 hdef hv
  go_enter Try.func20, Try.ntmps20
  go_wp2_with fail
  refine (rs_num gs A xs c _ HS.out).mono ?_
  rintro r w1 ⟨hF1, hm⟩
  cases hn : numR xs with
  | error e =>

    rw [hn] at hm
    obtain ⟨rfl, hE⟩ := hm
    have HN := Lib.hid (show cmdR xs = .error e from by rw [HD.out, hn]; rfl)
    have te : (e == 0) = false := by simpa using hE.1

    have hA1 := (Fr.refl (fun _ => False) w1).alloc (.cells #[.int .i64 0, .string { data := #[] }, .float .f64 0] 58)
    have HC1 := Lib.hid (Blk.new w1 58 #[.int .i64 0, .string { data := #[] }, .float .f64 0])
    have hR1 := HB0.out.fr hF1 (fun e => by have := HL.out; omega)
    have HR1 := Lib.hid (hR1.fr hA1 (fun h => h))
    have HF1 := Lib.hid (((HF0.out.mono (fun _ _ h => h.elim)).trans hF1).trans (hA1.mono (fun _ _ h => h.elim)))
    have HST := Lib.hid (hE.fr (hA1.mono (fun _ _ h => h.elim)))
    have HGG := Lib.hid (show gs < w.heap.size ∧ w.heap.size < w1.heap.size from ⟨HL.out, hR1.lt⟩)
    have k0 := HC1.out.cell 0
    have kf := HC1.out.frozen
    have s1 := HST.out.cell1
    simp only [List.setIfInBounds_toArray, List.set_cons_zero, List.set_cons_succ, List.getElem?_toArray, List.getElem?_cons_zero, List.getElem?_cons_succ] at  k0
    clear hA1 hR1 hF1 HF0 HB0 HS

    clear hE hn
    go_wp2_with fail

    generalize World.alloc _ _ = w2 at HC1 HR1 HF1 HST k0 kf s1 ⊢
    generalize w1.heap.size = gc at HC1 HGG k0 kf ⊢

    have HCk := HC1
    have HRk := HR1
    have HFk := HF1
    have HSk := HST
    clear HC1 HR1 HF1 HST k0 kf s1

    refine (rs_key_err gs e _ HSk.out).mono ?_
    rintro r w3 ⟨rfl, rfl⟩

    have y1 := HCk.out.cell 1
    have yf := HCk.out.frozen
    have hC := HCk.out.set_ 1 (.string ByteArray.empty)
    have HC3 := Lib.hid (show Blk (w2.setCell ⟨gc, 1, none⟩ (.string ByteArray.empty)) gc 58 #[.int .i64 0, .string ByteArray.empty, .float .f64 0] from hC)
    have HR3 := Lib.hid (HRk.out.far (p := ⟨gc, 1, none⟩) (by have := HGG.out; show w.heap.size ≠ gc; omega) (.string ByteArray.empty))
    have HF3 := Lib.hid (HFk.out.setCell (p := ⟨gc, 1, none⟩) (.inr (by have := HGG.out; show w.heap.size ≤ gc; omega)) (.string ByteArray.empty))
    have HS3 := Lib.hid (HSk.out.fr ((Fr.refl (fun k => gs < k) w2).setCell (p := ⟨gc, 1, none⟩) (.inl (by have := HGG.out; show gs < gc; omega)) (.string ByteArray.empty)))
    have x0 := HC3.out.cell 0
    simp only [List.setIfInBounds_toArray, List.set_cons_zero, List.set_cons_succ, List.getElem?_toArray, List.getElem?_cons_zero, List.getElem?_cons_succ] at  y1 x0
    clear hC HCk HRk HFk HSk

    have y0 := (HC3.out.cell 0)
    have y1' := (HC3.out.cell 1)
    have y2 := (HC3.out.cell 2)
    have z0 := HR3.out.cell 0
    have z1 := HR3.out.cell 1
    have z2 := HR3.out.cell 2
    have zf := HR3.out.frozen
    simp only [List.setIfInBounds_toArray, List.set_cons_zero, List.set_cons_succ, List.getElem?_toArray, List.getElem?_cons_zero, List.getElem?_cons_succ] at y0 y1' y2 z0 z1 z2
    go_wp2_with fail
    generalize w2.setCell ⟨gc, 1, none⟩ (.string ByteArray.empty) = w5 at HR3 HF3 HS3 ⊢
    have hFe := ((HF3.out.setCell (p := ⟨w.heap.size, 0, none⟩) (.inr (Nat.le_refl _)) (.int .i64 0)).setCell (p := ⟨w.heap.size, 1, none⟩) (.inr (Nat.le_refl _)) (.string ByteArray.empty)).setCell (p := ⟨w.heap.size, 2, none⟩) (.inr (Nat.le_refl _)) (.float .f64 0)
    have hSe := HS3.out.fr ((((Fr.refl (fun k => gs < k) w5).setCell (p := ⟨w.heap.size, 0, none⟩) (.inl HL.out) (.int .i64 0)).setCell (p := ⟨w.heap.size, 1, none⟩) (.inl HL.out) (.string ByteArray.empty)).setCell (p := ⟨w.heap.size, 2, none⟩) (.inl HL.out) (.float .f64 0))
    refine bodyPost_ret (results_cell_row Try.results20 _ _ w.heap.size _ _ _ _ rfl (set3v HR3.out _ _ _) Try.underlying58 rfl (by kernel_rfl)) rfl ?_
    exact CEnd.err (x := (0, ByteArray.empty, 0)) HN.out hFe rfl (by decide) hSe
  | ok p =>
    obtain ⟨n, ys⟩ := p
    rw [hn] at hm
    obtain ⟨_, rfl, rfl, A1, c1, hS1⟩ := hm
    have hd := HD.out
    rw [hn, thenR_ok rfl] at hd
    have HN := Lib.hid hd

    have hA1 := (Fr.refl (fun _ => False) w1).alloc (.cells #[.int .i64 (n : Int), .string { data := #[] }, .float .f64 0] 58)
    have HC1 := Lib.hid (Blk.new w1 58 #[.int .i64 (n : Int), .string { data := #[] }, .float .f64 0])
    have hR1 := HB0.out.fr hF1 (fun e => by have := HL.out; omega)
    have HR1 := Lib.hid (hR1.fr hA1 (fun h => h))
    have HF1 := Lib.hid (((HF0.out.mono (fun _ _ h => h.elim)).trans hF1).trans (hA1.mono (fun _ _ h => h.elim)))
    have HST := Lib.hid (hS1.fr (hA1.mono (fun _ _ h => h.elim)))
    have HGG := Lib.hid (show gs < w.heap.size ∧ w.heap.size < w1.heap.size from ⟨HL.out, hR1.lt⟩)
    have k0 := HC1.out.cell 0
    have kf := HC1.out.frozen
    have s1 := HST.out.cell1
    simp only [List.setIfInBounds_toArray, List.set_cons_zero, List.set_cons_succ, List.getElem?_toArray, List.getElem?_cons_zero, List.getElem?_cons_succ] at  k0
    clear hA1 hR1 hF1 HF0 HB0 HS

    clear hd hn hS1
    by_cases hk : n < 1 ∨ 4 < n
    · have HK := Lib.hid hk
      rcases Nat.lt_or_ge n 1 with h1 | h1
      · have ta : decide ((n : Int) < 1) = true := decide_eq_true (by omega)
        clear hk h1
        have HE := Lib.hid (show cmdR xs = .error 12 from by rw [HN.out, if_pos HK.out])
        have tn2 : ((n : Int) == 2) = false := by have := HK.out; simp; omega
        have tn4 : ((n : Int) == 4) = false := by have := HK.out; simp; omega
        have hbk := HST.out.blk
        have f1 := hbk.frozen
        have HSk := Lib.hid (show RErr (World.setCell (w1.alloc (.cells #[.int .i64 (n : Int), .string { data := #[] }, .float .f64 0] 58)) ⟨gs, 1, none⟩ (.int .i64 12)) gs 12 from ⟨by decide, _, _, _, hbk.set_ 1 (.int .i64 12)⟩)
        have HCk := Lib.hid (HC1.out.far (p := ⟨gs, 1, none⟩) (by have := HGG.out; show w1.heap.size ≠ gs; omega) (.int .i64 12))
        have HRk := Lib.hid (HR1.out.far (p := ⟨gs, 1, none⟩) (by have := HGG.out; show w.heap.size ≠ gs; omega) (.int .i64 12))
        have HFk := Lib.hid (HF1.out.setCell (p := ⟨gs, 1, none⟩) (.inl rfl) (.int .i64 12))
        clear hbk
        go_wp2_with fail
        clear k0 kf s1 f1 HC1 HR1 HF1 HST
        generalize World.setCell (World.alloc _ _) _ _ = w2 at HCk HRk HFk HSk ⊢
        generalize w1.heap.size = gc at HCk HGG ⊢

        refine (rs_key_err gs 12 _ HSk.out).mono ?_
        rintro r w3 ⟨rfl, rfl⟩

        have y1 := HCk.out.cell 1
        have yf := HCk.out.frozen
        have hC := HCk.out.set_ 1 (.string ByteArray.empty)
        have HC3 := Lib.hid (show Blk (w2.setCell ⟨gc, 1, none⟩ (.string ByteArray.empty)) gc 58 #[.int .i64 (n : Int), .string ByteArray.empty, .float .f64 0] from hC)
        have HR3 := Lib.hid (HRk.out.far (p := ⟨gc, 1, none⟩) (by have := HGG.out; show w.heap.size ≠ gc; omega) (.string ByteArray.empty))
        have HF3 := Lib.hid (HFk.out.setCell (p := ⟨gc, 1, none⟩) (.inr (by have := HGG.out; show w.heap.size ≤ gc; omega)) (.string ByteArray.empty))
        have HS3 := Lib.hid (HSk.out.fr ((Fr.refl (fun k => gs < k) w2).setCell (p := ⟨gc, 1, none⟩) (.inl (by have := HGG.out; show gs < gc; omega)) (.string ByteArray.empty)))
        have x0 := HC3.out.cell 0
        simp only [List.setIfInBounds_toArray, List.set_cons_zero, List.set_cons_succ, List.getElem?_toArray, List.getElem?_cons_zero, List.getElem?_cons_succ] at  y1 x0
        clear hC HCk HRk HFk HSk

        have y0 := (HC3.out.cell 0)
        have y1' := (HC3.out.cell 1)
        have y2 := (HC3.out.cell 2)
        have z0 := HR3.out.cell 0
        have z1 := HR3.out.cell 1
        have z2 := HR3.out.cell 2
        have zf := HR3.out.frozen
        simp only [List.setIfInBounds_toArray, List.set_cons_zero, List.set_cons_succ, List.getElem?_toArray, List.getElem?_cons_zero, List.getElem?_cons_succ] at y0 y1' y2 z0 z1 z2
        go_wp2_with fail
        generalize w2.setCell ⟨gc, 1, none⟩ (.string ByteArray.empty) = w5 at HR3 HF3 HS3 ⊢
        have hFe := ((HF3.out.setCell (p := ⟨w.heap.size, 0, none⟩) (.inr (Nat.le_refl _)) (.int .i64 (n : Int))).setCell (p := ⟨w.heap.size, 1, none⟩) (.inr (Nat.le_refl _)) (.string ByteArray.empty)).setCell (p := ⟨w.heap.size, 2, none⟩) (.inr (Nat.le_refl _)) (.float .f64 0)
        have hSe := HS3.out.fr ((((Fr.refl (fun k => gs < k) w5).setCell (p := ⟨w.heap.size, 0, none⟩) (.inl HL.out) (.int .i64 (n : Int))).setCell (p := ⟨w.heap.size, 1, none⟩) (.inl HL.out) (.string ByteArray.empty)).setCell (p := ⟨w.heap.size, 2, none⟩) (.inl HL.out) (.float .f64 0))
        refine bodyPost_ret (results_cell_row Try.results20 _ _ w.heap.size _ _ _ _ rfl (set3v HR3.out _ _ _) Try.underlying58 rfl (by kernel_rfl)) rfl ?_
        exact CEnd.err (x := ((n : Int), ByteArray.empty, 0)) HE.out hFe rfl (by show (0 : Nat) < _; decide) hSe

      · have ta : decide ((n : Int) < 1) = false := decide_eq_false (by omega)
        have tb : decide ((4 : Int) < (n : Int)) = true := decide_eq_true (by omega)
        clear hk h1
        have HE := Lib.hid (show cmdR xs = .error 12 from by rw [HN.out, if_pos HK.out])
        have tn2 : ((n : Int) == 2) = false := by have := HK.out; simp; omega
        have tn4 : ((n : Int) == 4) = false := by have := HK.out; simp; omega
        have hbk := HST.out.blk
        have f1 := hbk.frozen
        have HSk := Lib.hid (show RErr (World.setCell (w1.alloc (.cells #[.int .i64 (n : Int), .string { data := #[] }, .float .f64 0] 58)) ⟨gs, 1, none⟩ (.int .i64 12)) gs 12 from ⟨by decide, _, _, _, hbk.set_ 1 (.int .i64 12)⟩)
        have HCk := Lib.hid (HC1.out.far (p := ⟨gs, 1, none⟩) (by have := HGG.out; show w1.heap.size ≠ gs; omega) (.int .i64 12))
        have HRk := Lib.hid (HR1.out.far (p := ⟨gs, 1, none⟩) (by have := HGG.out; show w.heap.size ≠ gs; omega) (.int .i64 12))
        have HFk := Lib.hid (HF1.out.setCell (p := ⟨gs, 1, none⟩) (.inl rfl) (.int .i64 12))
        clear hbk
        go_wp2_with fail
        clear k0 kf s1 f1 HC1 HR1 HF1 HST
        generalize World.setCell (World.alloc _ _) _ _ = w2 at HCk HRk HFk HSk ⊢
        generalize w1.heap.size = gc at HCk HGG ⊢

        refine (rs_key_err gs 12 _ HSk.out).mono ?_
        rintro r w3 ⟨rfl, rfl⟩

        have y1 := HCk.out.cell 1
        have yf := HCk.out.frozen
        have hC := HCk.out.set_ 1 (.string ByteArray.empty)
        have HC3 := Lib.hid (show Blk (w2.setCell ⟨gc, 1, none⟩ (.string ByteArray.empty)) gc 58 #[.int .i64 (n : Int), .string ByteArray.empty, .float .f64 0] from hC)
        have HR3 := Lib.hid (HRk.out.far (p := ⟨gc, 1, none⟩) (by have := HGG.out; show w.heap.size ≠ gc; omega) (.string ByteArray.empty))
        have HF3 := Lib.hid (HFk.out.setCell (p := ⟨gc, 1, none⟩) (.inr (by have := HGG.out; show w.heap.size ≤ gc; omega)) (.string ByteArray.empty))
        have HS3 := Lib.hid (HSk.out.fr ((Fr.refl (fun k => gs < k) w2).setCell (p := ⟨gc, 1, none⟩) (.inl (by have := HGG.out; show gs < gc; omega)) (.string ByteArray.empty)))
        have x0 := HC3.out.cell 0
        simp only [List.setIfInBounds_toArray, List.set_cons_zero, List.set_cons_succ, List.getElem?_toArray, List.getElem?_cons_zero, List.getElem?_cons_succ] at  y1 x0
        clear hC HCk HRk HFk HSk

        have y0 := (HC3.out.cell 0)
        have y1' := (HC3.out.cell 1)
        have y2 := (HC3.out.cell 2)
        have z0 := HR3.out.cell 0
        have z1 := HR3.out.cell 1
        have z2 := HR3.out.cell 2
        have zf := HR3.out.frozen
        simp only [List.setIfInBounds_toArray, List.set_cons_zero, List.set_cons_succ, List.getElem?_toArray, List.getElem?_cons_zero, List.getElem?_cons_succ] at y0 y1' y2 z0 z1 z2
        go_wp2_with fail
        generalize w2.setCell ⟨gc, 1, none⟩ (.string ByteArray.empty) = w5 at HR3 HF3 HS3 ⊢
        have hFe := ((HF3.out.setCell (p := ⟨w.heap.size, 0, none⟩) (.inr (Nat.le_refl _)) (.int .i64 (n : Int))).setCell (p := ⟨w.heap.size, 1, none⟩) (.inr (Nat.le_refl _)) (.string ByteArray.empty)).setCell (p := ⟨w.heap.size, 2, none⟩) (.inr (Nat.le_refl _)) (.float .f64 0)
        have hSe := HS3.out.fr ((((Fr.refl (fun k => gs < k) w5).setCell (p := ⟨w.heap.size, 0, none⟩) (.inl HL.out) (.int .i64 (n : Int))).setCell (p := ⟨w.heap.size, 1, none⟩) (.inl HL.out) (.string ByteArray.empty)).setCell (p := ⟨w.heap.size, 2, none⟩) (.inl HL.out) (.float .f64 0))
        refine bodyPost_ret (results_cell_row Try.results20 _ _ w.heap.size _ _ _ _ rfl (set3v HR3.out _ _ _) Try.underlying58 rfl (by kernel_rfl)) rfl ?_
        exact CEnd.err (x := ((n : Int), ByteArray.empty, 0)) HE.out hFe rfl (by show (0 : Nat) < _; decide) hSe

    · have ta : decide ((n : Int) < 1) = false := decide_eq_false (by omega)
      have tb : decide ((4 : Int) < (n : Int)) = false := decide_eq_false (by omega)
      have hd2 := HN.out
      rw [if_neg hk] at hd2
      have HN2 := Lib.hid hd2
      have HKK := Lib.hid hk
      clear hk hd2
      go_wp2_with fail
      generalize World.alloc _ _ = w2 at HC1 HR1 HF1 HST k0 kf s1 ⊢
      generalize w1.heap.size = gc at HC1 HGG k0 kf ⊢

      have HCk := HC1
      have HRk := HR1
      have HFk := HF1
      have HSk := HST
      clear HC1 HR1 HF1 HST k0 kf s1

      refine (rs_key gs A1 ys c1 _ HSk.out).mono ?_
      rintro r w3 ⟨hF3, hm⟩
      replace HCk := Lib.hid (HCk.out.fr hF3 (fun h => by have := HGG.out; omega))
      replace HRk := Lib.hid (HRk.out.fr hF3 (fun h => by have := HGG.out; omega))
      replace HFk := Lib.hid (HFk.out.trans hF3)
      clear hF3 ta tb HSk
      obtain ⟨t1, ht1⟩ : ∃ t, ((n : Int) == 2) = t := ⟨_, rfl⟩
      obtain ⟨t2, ht2⟩ : ∃ t, ((n : Int) == 4) = t := ⟨_, rfl⟩
      have hh := HV.out n
      rw [ht1, ht2] at hh
      have HH := Lib.hid hh
      clear hh
      cases hn : keyR ys with
      | error e =>
        rw [hn] at hm
        obtain ⟨rfl, hE⟩ := hm
        have HE := Lib.hid (show cmdR xs = .error e from by rw [HN2.out, hn]; rfl)
        have HSk := Lib.hid hE
        clear hE hn
        have y1 := HCk.out.cell 1
        have yf := HCk.out.frozen
        have hC := HCk.out.set_ 1 (.string ByteArray.empty)
        have HC3 := Lib.hid (show Blk (w3.setCell ⟨gc, 1, none⟩ (.string ByteArray.empty)) gc 58 #[.int .i64 (n : Int), .string ByteArray.empty, .float .f64 0] from hC)
        have HR3 := Lib.hid (HRk.out.far (p := ⟨gc, 1, none⟩) (by have := HGG.out; show w.heap.size ≠ gc; omega) (.string ByteArray.empty))
        have HF3 := Lib.hid (HFk.out.setCell (p := ⟨gc, 1, none⟩) (.inr (by have := HGG.out; show w.heap.size ≤ gc; omega)) (.string ByteArray.empty))
        have HS3 := Lib.hid (HSk.out.fr ((Fr.refl (fun k => gs < k) w3).setCell (p := ⟨gc, 1, none⟩) (.inl (by have := HGG.out; show gs < gc; omega)) (.string ByteArray.empty)))
        have x0 := HC3.out.cell 0
        simp only [List.setIfInBounds_toArray, List.set_cons_zero, List.set_cons_succ, List.getElem?_toArray, List.getElem?_cons_zero, List.getElem?_cons_succ] at  y1 x0
        clear hC HCk HRk HFk HSk

        cases t1 with
        | true =>
          have y0 := HC3.out.cell 0
          simp only [List.setIfInBounds_toArray, List.set_cons_zero, List.set_cons_succ, List.getElem?_toArray, List.getElem?_cons_zero, List.getElem?_cons_succ] at y0
          go_wp2_with fail
          refine (rs_float_err gs e _ HS3.out).mono ?_
          rintro r w4 ⟨rfl, rfl⟩
          clear y1 yf x0 y0
          generalize w3.setCell ⟨gc, 1, none⟩ (.string ByteArray.empty) = w4 at HC3 HR3 HF3 HS3 ⊢
          have u2 := HC3.out.cell 2
          have uf := HC3.out.frozen
          simp only [List.setIfInBounds_toArray, List.set_cons_zero, List.set_cons_succ, List.getElem?_toArray, List.getElem?_cons_zero, List.getElem?_cons_succ] at u2
          have hC := HC3.out.set_ 2 (.float .f64 0)
          have HC6 := Lib.hid (show Blk (w4.setCell ⟨gc, 2, none⟩ (.float .f64 0)) gc 58 #[.int .i64 (n : Int), .string ByteArray.empty, .float .f64 0] from hC)
          replace HR3 := Lib.hid (HR3.out.far (p := ⟨gc, 2, none⟩) (by have := HGG.out; show w.heap.size ≠ gc; omega) (.float .f64 0))
          replace HF3 := Lib.hid (HF3.out.setCell (p := ⟨gc, 2, none⟩) (.inr (by have := HGG.out; show w.heap.size ≤ gc; omega)) (.float .f64 0))
          replace HS3 := Lib.hid (HS3.out.fr ((Fr.refl (fun k => gs < k) w4).setCell (p := ⟨gc, 2, none⟩) (.inl (by have := HGG.out; show gs < gc; omega)) (.float .f64 0)))
          clear hC HC3
          have HC3 := HC6
          clear HC6

          have y0 := (HC3.out.cell 0)
          have y1' := (HC3.out.cell 1)
          have y2 := (HC3.out.cell 2)
          have z0 := HR3.out.cell 0
          have z1 := HR3.out.cell 1
          have z2 := HR3.out.cell 2
          have zf := HR3.out.frozen
          simp only [List.setIfInBounds_toArray, List.set_cons_zero, List.set_cons_succ, List.getElem?_toArray, List.getElem?_cons_zero, List.getElem?_cons_succ] at y0 y1' y2 z0 z1 z2
          go_wp2_with fail
          generalize w4.setCell ⟨gc, 2, none⟩ (.float .f64 0) = w5 at HR3 HF3 HS3 ⊢
          have hFe := ((HF3.out.setCell (p := ⟨w.heap.size, 0, none⟩) (.inr (Nat.le_refl _)) (.int .i64 (n : Int))).setCell (p := ⟨w.heap.size, 1, none⟩) (.inr (Nat.le_refl _)) (.string ByteArray.empty)).setCell (p := ⟨w.heap.size, 2, none⟩) (.inr (Nat.le_refl _)) (.float .f64 0)
          have hSe := HS3.out.fr ((((Fr.refl (fun k => gs < k) w5).setCell (p := ⟨w.heap.size, 0, none⟩) (.inl HL.out) (.int .i64 (n : Int))).setCell (p := ⟨w.heap.size, 1, none⟩) (.inl HL.out) (.string ByteArray.empty)).setCell (p := ⟨w.heap.size, 2, none⟩) (.inl HL.out) (.float .f64 0))
          refine bodyPost_ret (results_cell_row Try.results20 _ _ w.heap.size _ _ _ _ rfl (set3v HR3.out _ _ _) Try.underlying58 rfl (by kernel_rfl)) rfl ?_
          exact CEnd.err (x := ((n : Int), ByteArray.empty, 0)) HE.out hFe rfl (by show (0 : Nat) < _; decide) hSe

        | false =>
          cases t2 with
          | true =>
            have y0 := HC3.out.cell 0
            simp only [List.setIfInBounds_toArray, List.set_cons_zero, List.set_cons_succ, List.getElem?_toArray, List.getElem?_cons_zero, List.getElem?_cons_succ] at y0
            go_wp2_with fail
            refine (rs_float_err gs e _ HS3.out).mono ?_
            rintro r w4 ⟨rfl, rfl⟩
            clear y1 yf x0 y0
            generalize w3.setCell ⟨gc, 1, none⟩ (.string ByteArray.empty) = w4 at HC3 HR3 HF3 HS3 ⊢
            have u2 := HC3.out.cell 2
            have uf := HC3.out.frozen
            simp only [List.setIfInBounds_toArray, List.set_cons_zero, List.set_cons_succ, List.getElem?_toArray, List.getElem?_cons_zero, List.getElem?_cons_succ] at u2
            have hC := HC3.out.set_ 2 (.float .f64 0)
            have HC6 := Lib.hid (show Blk (w4.setCell ⟨gc, 2, none⟩ (.float .f64 0)) gc 58 #[.int .i64 (n : Int), .string ByteArray.empty, .float .f64 0] from hC)
            replace HR3 := Lib.hid (HR3.out.far (p := ⟨gc, 2, none⟩) (by have := HGG.out; show w.heap.size ≠ gc; omega) (.float .f64 0))
            replace HF3 := Lib.hid (HF3.out.setCell (p := ⟨gc, 2, none⟩) (.inr (by have := HGG.out; show w.heap.size ≤ gc; omega)) (.float .f64 0))
            replace HS3 := Lib.hid (HS3.out.fr ((Fr.refl (fun k => gs < k) w4).setCell (p := ⟨gc, 2, none⟩) (.inl (by have := HGG.out; show gs < gc; omega)) (.float .f64 0)))
            clear hC HC3
            have HC3 := HC6
            clear HC6

            have y0 := (HC3.out.cell 0)
            have y1' := (HC3.out.cell 1)
            have y2 := (HC3.out.cell 2)
            have z0 := HR3.out.cell 0
            have z1 := HR3.out.cell 1
            have z2 := HR3.out.cell 2
            have zf := HR3.out.frozen
            simp only [List.setIfInBounds_toArray, List.set_cons_zero, List.set_cons_succ, List.getElem?_toArray, List.getElem?_cons_zero, List.getElem?_cons_succ] at y0 y1' y2 z0 z1 z2
            go_wp2_with fail
            generalize w4.setCell ⟨gc, 2, none⟩ (.float .f64 0) = w5 at HR3 HF3 HS3 ⊢
            have hFe := ((HF3.out.setCell (p := ⟨w.heap.size, 0, none⟩) (.inr (Nat.le_refl _)) (.int .i64 (n : Int))).setCell (p := ⟨w.heap.size, 1, none⟩) (.inr (Nat.le_refl _)) (.string ByteArray.empty)).setCell (p := ⟨w.heap.size, 2, none⟩) (.inr (Nat.le_refl _)) (.float .f64 0)
            have hSe := HS3.out.fr ((((Fr.refl (fun k => gs < k) w5).setCell (p := ⟨w.heap.size, 0, none⟩) (.inl HL.out) (.int .i64 (n : Int))).setCell (p := ⟨w.heap.size, 1, none⟩) (.inl HL.out) (.string ByteArray.empty)).setCell (p := ⟨w.heap.size, 2, none⟩) (.inl HL.out) (.float .f64 0))
            refine bodyPost_ret (results_cell_row Try.results20 _ _ w.heap.size _ _ _ _ rfl (set3v HR3.out _ _ _) Try.underlying58 rfl (by kernel_rfl)) rfl ?_
            exact CEnd.err (x := ((n : Int), ByteArray.empty, 0)) HE.out hFe rfl (by show (0 : Nat) < _; decide) hSe

          | false =>
            have y0 := (HC3.out.cell 0)
            have y1' := (HC3.out.cell 1)
            have y2 := (HC3.out.cell 2)
            have z0 := HR3.out.cell 0
            have z1 := HR3.out.cell 1
            have z2 := HR3.out.cell 2
            have zf := HR3.out.frozen
            simp only [List.setIfInBounds_toArray, List.set_cons_zero, List.set_cons_succ, List.getElem?_toArray, List.getElem?_cons_zero, List.getElem?_cons_succ] at y0 y1' y2 z0 z1 z2
            go_wp2_with fail
            generalize w3.setCell ⟨gc, 1, none⟩ (.string ByteArray.empty) = w5 at HR3 HF3 HS3 ⊢
            have hFe := ((HF3.out.setCell (p := ⟨w.heap.size, 0, none⟩) (.inr (Nat.le_refl _)) (.int .i64 (n : Int))).setCell (p := ⟨w.heap.size, 1, none⟩) (.inr (Nat.le_refl _)) (.string ByteArray.empty)).setCell (p := ⟨w.heap.size, 2, none⟩) (.inr (Nat.le_refl _)) (.float .f64 0)
            have hSe := HS3.out.fr ((((Fr.refl (fun k => gs < k) w5).setCell (p := ⟨w.heap.size, 0, none⟩) (.inl HL.out) (.int .i64 (n : Int))).setCell (p := ⟨w.heap.size, 1, none⟩) (.inl HL.out) (.string ByteArray.empty)).setCell (p := ⟨w.heap.size, 2, none⟩) (.inl HL.out) (.float .f64 0))
            refine bodyPost_ret (results_cell_row Try.results20 _ _ w.heap.size _ _ _ _ rfl (set3v HR3.out _ _ _) Try.underlying58 rfl (by kernel_rfl)) rfl ?_
            exact CEnd.err (x := ((n : Int), ByteArray.empty, 0)) HE.out hFe rfl (by show (0 : Nat) < _; decide) hSe
      | ok p =>
        obtain ⟨s, zs⟩ := p
        rw [hn] at hm
        obtain ⟨_, rfl, rfl, A2, c2, hS2⟩ := hm
        have hd := HN2.out
        rw [hn, thenR_ok rfl] at hd
        have HN3 := Lib.hid hd
        have HSk := Lib.hid hS2
        clear hd hS2 hn
        have y1 := HCk.out.cell 1
        have yf := HCk.out.frozen
        have hC := HCk.out.set_ 1 (.string s)
        have HC3 := Lib.hid (show Blk (w3.setCell ⟨gc, 1, none⟩ (.string s)) gc 58 #[.int .i64 (n : Int), .string s, .float .f64 0] from hC)
        have HR3 := Lib.hid (HRk.out.far (p := ⟨gc, 1, none⟩) (by have := HGG.out; show w.heap.size ≠ gc; omega) (.string s))
        have HF3 := Lib.hid (HFk.out.setCell (p := ⟨gc, 1, none⟩) (.inr (by have := HGG.out; show w.heap.size ≤ gc; omega)) (.string s))
        have HS3 := Lib.hid (HSk.out.fr ((Fr.refl (fun k => gs < k) w3).setCell (p := ⟨gc, 1, none⟩) (.inl (by have := HGG.out; show gs < gc; omega)) (.string s)))
        have x0 := HC3.out.cell 0
        simp only [List.setIfInBounds_toArray, List.set_cons_zero, List.set_cons_succ, List.getElem?_toArray, List.getElem?_cons_zero, List.getElem?_cons_succ] at  y1 x0
        clear hC HCk HRk HFk HSk

        cases t1 with
        | true =>
          have y0 := HC3.out.cell 0
          simp only [List.setIfInBounds_toArray, List.set_cons_zero, List.set_cons_succ, List.getElem?_toArray, List.getElem?_cons_zero, List.getElem?_cons_succ] at y0
          have hd := HN3.out
          rw [show hasV n = true from HH.out, if_pos rfl] at hd
          have HN4 := Lib.hid hd
          clear hd
          go_wp2_with fail
          clear y1 yf x0 y0
          generalize w3.setCell ⟨gc, 1, none⟩ (.string s) = w4 at HC3 HR3 HF3 HS3 ⊢
          refine (rs_float gs A2 zs c2 _ HS3.out).mono ?_
          rintro r w6 ⟨hF6, hm⟩
          replace HC3 := Lib.hid (HC3.out.fr hF6 (fun h => by have := HGG.out; omega))
          replace HR3 := Lib.hid (HR3.out.fr hF6 (fun h => by have := HGG.out; omega))
          replace HF3 := Lib.hid (HF3.out.trans hF6)
          clear hF6 HS3
          have u2 := HC3.out.cell 2
          have uf := HC3.out.frozen
          simp only [List.setIfInBounds_toArray, List.set_cons_zero, List.set_cons_succ, List.getElem?_toArray, List.getElem?_cons_zero, List.getElem?_cons_succ] at u2
          cases hn : valR zs with
          | error e =>
            rw [hn] at hm
            obtain ⟨rfl, hE⟩ := hm
            have HE := Lib.hid (show cmdR xs = .error e from by rw [HN4.out, hn]; rfl)
            have HS3 := Lib.hid hE
            clear hE hn
            have hC := HC3.out.set_ 2 (.float .f64 0)
            have HC6 := Lib.hid (show Blk (w6.setCell ⟨gc, 2, none⟩ (.float .f64 0)) gc 58 #[.int .i64 (n : Int), .string s, .float .f64 0] from hC)
            replace HR3 := Lib.hid (HR3.out.far (p := ⟨gc, 2, none⟩) (by have := HGG.out; show w.heap.size ≠ gc; omega) (.float .f64 0))
            replace HF3 := Lib.hid (HF3.out.setCell (p := ⟨gc, 2, none⟩) (.inr (by have := HGG.out; show w.heap.size ≤ gc; omega)) (.float .f64 0))
            replace HS3 := Lib.hid (HS3.out.fr ((Fr.refl (fun k => gs < k) w6).setCell (p := ⟨gc, 2, none⟩) (.inl (by have := HGG.out; show gs < gc; omega)) (.float .f64 0)))
            clear hC HC3
            have HC3 := HC6
            clear HC6
            have y0 := (HC3.out.cell 0)
            have y1' := (HC3.out.cell 1)
            have y2 := (HC3.out.cell 2)
            have z0 := HR3.out.cell 0
            have z1 := HR3.out.cell 1
            have z2 := HR3.out.cell 2
            have zf := HR3.out.frozen
            simp only [List.setIfInBounds_toArray, List.set_cons_zero, List.set_cons_succ, List.getElem?_toArray, List.getElem?_cons_zero, List.getElem?_cons_succ] at y0 y1' y2 z0 z1 z2
            go_wp2_with fail
            generalize w6.setCell ⟨gc, 2, none⟩ (.float .f64 0) = w5 at HR3 HF3 HS3 ⊢
            have hFe := ((HF3.out.setCell (p := ⟨w.heap.size, 0, none⟩) (.inr (Nat.le_refl _)) (.int .i64 (n : Int))).setCell (p := ⟨w.heap.size, 1, none⟩) (.inr (Nat.le_refl _)) (.string s)).setCell (p := ⟨w.heap.size, 2, none⟩) (.inr (Nat.le_refl _)) (.float .f64 0)
            have hSe := HS3.out.fr ((((Fr.refl (fun k => gs < k) w5).setCell (p := ⟨w.heap.size, 0, none⟩) (.inl HL.out) (.int .i64 (n : Int))).setCell (p := ⟨w.heap.size, 1, none⟩) (.inl HL.out) (.string s)).setCell (p := ⟨w.heap.size, 2, none⟩) (.inl HL.out) (.float .f64 0))
            refine bodyPost_ret (results_cell_row Try.results20 _ _ w.heap.size _ _ _ _ rfl (set3v HR3.out _ _ _) Try.underlying58 rfl (by kernel_rfl)) rfl ?_
            exact CEnd.err (x := ((n : Int), s, 0)) HE.out hFe rfl (by show (0 : Nat) < _; decide) hSe

          | ok p =>
            obtain ⟨v, us⟩ := p
            rw [hn] at hm
            obtain ⟨_, rfl, ⟨f, rfl, hf, hcf⟩, A3, c3, hS⟩ := hm
            have HE := Lib.hid (show cmdR xs = .ok (((n : Int), s, v), us) from by rw [HN4.out, hn]; rfl)
            have HS3 := Lib.hid hS
            have HFV := Lib.hid (And.intro hf hcf)
            clear hS hn hf hcf
            have hC := HC3.out.set_ 2 (.float .f64 f)
            have HC6 := Lib.hid (show Blk (w6.setCell ⟨gc, 2, none⟩ (.float .f64 f)) gc 58 #[.int .i64 (n : Int), .string s, .float .f64 f] from hC)
            replace HR3 := Lib.hid (HR3.out.far (p := ⟨gc, 2, none⟩) (by have := HGG.out; show w.heap.size ≠ gc; omega) (.float .f64 f))
            replace HF3 := Lib.hid (HF3.out.setCell (p := ⟨gc, 2, none⟩) (.inr (by have := HGG.out; show w.heap.size ≤ gc; omega)) (.float .f64 f))
            replace HS3 := Lib.hid (HS3.out.fr ((Fr.refl (fun k => gs < k) w6).setCell (p := ⟨gc, 2, none⟩) (.inl (by have := HGG.out; show gs < gc; omega)) (.float .f64 f)))
            clear hC HC3
            have HC3 := HC6
            clear HC6
            have y0 := (HC3.out.cell 0)
            have y1' := (HC3.out.cell 1)
            have y2 := (HC3.out.cell 2)
            have z0 := HR3.out.cell 0
            have z1 := HR3.out.cell 1
            have z2 := HR3.out.cell 2
            have zf := HR3.out.frozen
            simp only [List.setIfInBounds_toArray, List.set_cons_zero, List.set_cons_succ, List.getElem?_toArray, List.getElem?_cons_zero, List.getElem?_cons_succ] at y0 y1' y2 z0 z1 z2
            go_wp2_with fail
            generalize w6.setCell ⟨gc, 2, none⟩ (.float .f64 f) = w5 at HR3 HF3 HS3 ⊢
            have hFe := ((HF3.out.setCell (p := ⟨w.heap.size, 0, none⟩) (.inr (Nat.le_refl _)) (.int .i64 (n : Int))).setCell (p := ⟨w.heap.size, 1, none⟩) (.inr (Nat.le_refl _)) (.string s)).setCell (p := ⟨w.heap.size, 2, none⟩) (.inr (Nat.le_refl _)) (.float .f64 f)
            have hSe := HS3.out.fr ((((Fr.refl (fun k => gs < k) w5).setCell (p := ⟨w.heap.size, 0, none⟩) (.inl HL.out) (.int .i64 (n : Int))).setCell (p := ⟨w.heap.size, 1, none⟩) (.inl HL.out) (.string s)).setCell (p := ⟨w.heap.size, 2, none⟩) (.inl HL.out) (.float .f64 f))
            refine bodyPost_ret (results_cell_row Try.results20 _ _ w.heap.size _ _ _ _ rfl (set3v HR3.out _ _ _) Try.underlying58 rfl (by kernel_rfl)) rfl ?_
            exact CEnd.ok (x := ((n : Int), s, f)) HE.out hFe rfl HFV.out.1 (by unfold canonCmd; rw [HFV.out.2]) (fun h => by rw [Int.toNat_natCast, HH.out] at h; cases h) hSe

        | false =>
          cases t2 with
          | true =>
            have y0 := HC3.out.cell 0
            simp only [List.setIfInBounds_toArray, List.set_cons_zero, List.set_cons_succ, List.getElem?_toArray, List.getElem?_cons_zero, List.getElem?_cons_succ] at y0
            have hd := HN3.out
            rw [show hasV n = true from HH.out, if_pos rfl] at hd
            have HN4 := Lib.hid hd
            clear hd
            go_wp2_with fail
            clear y1 yf x0 y0
            generalize w3.setCell ⟨gc, 1, none⟩ (.string s) = w4 at HC3 HR3 HF3 HS3 ⊢
            refine (rs_float gs A2 zs c2 _ HS3.out).mono ?_
            rintro r w6 ⟨hF6, hm⟩
            replace HC3 := Lib.hid (HC3.out.fr hF6 (fun h => by have := HGG.out; omega))
            replace HR3 := Lib.hid (HR3.out.fr hF6 (fun h => by have := HGG.out; omega))
            replace HF3 := Lib.hid (HF3.out.trans hF6)
            clear hF6 HS3
            have u2 := HC3.out.cell 2
            have uf := HC3.out.frozen
            simp only [List.setIfInBounds_toArray, List.set_cons_zero, List.set_cons_succ, List.getElem?_toArray, List.getElem?_cons_zero, List.getElem?_cons_succ] at u2
            cases hn : valR zs with
            | error e =>
              rw [hn] at hm
              obtain ⟨rfl, hE⟩ := hm
              have HE := Lib.hid (show cmdR xs = .error e from by rw [HN4.out, hn]; rfl)
              have HS3 := Lib.hid hE
              clear hE hn
              have hC := HC3.out.set_ 2 (.float .f64 0)
              have HC6 := Lib.hid (show Blk (w6.setCell ⟨gc, 2, none⟩ (.float .f64 0)) gc 58 #[.int .i64 (n : Int), .string s, .float .f64 0] from hC)
              replace HR3 := Lib.hid (HR3.out.far (p := ⟨gc, 2, none⟩) (by have := HGG.out; show w.heap.size ≠ gc; omega) (.float .f64 0))
              replace HF3 := Lib.hid (HF3.out.setCell (p := ⟨gc, 2, none⟩) (.inr (by have := HGG.out; show w.heap.size ≤ gc; omega)) (.float .f64 0))
              replace HS3 := Lib.hid (HS3.out.fr ((Fr.refl (fun k => gs < k) w6).setCell (p := ⟨gc, 2, none⟩) (.inl (by have := HGG.out; show gs < gc; omega)) (.float .f64 0)))
              clear hC HC3
              have HC3 := HC6
              clear HC6
              have y0 := (HC3.out.cell 0)
              have y1' := (HC3.out.cell 1)
              have y2 := (HC3.out.cell 2)
              have z0 := HR3.out.cell 0
              have z1 := HR3.out.cell 1
              have z2 := HR3.out.cell 2
              have zf := HR3.out.frozen
              simp only [List.setIfInBounds_toArray, List.set_cons_zero, List.set_cons_succ, List.getElem?_toArray, List.getElem?_cons_zero, List.getElem?_cons_succ] at y0 y1' y2 z0 z1 z2
              go_wp2_with fail
              generalize w6.setCell ⟨gc, 2, none⟩ (.float .f64 0) = w5 at HR3 HF3 HS3 ⊢
              have hFe := ((HF3.out.setCell (p := ⟨w.heap.size, 0, none⟩) (.inr (Nat.le_refl _)) (.int .i64 (n : Int))).setCell (p := ⟨w.heap.size, 1, none⟩) (.inr (Nat.le_refl _)) (.string s)).setCell (p := ⟨w.heap.size, 2, none⟩) (.inr (Nat.le_refl _)) (.float .f64 0)
              have hSe := HS3.out.fr ((((Fr.refl (fun k => gs < k) w5).setCell (p := ⟨w.heap.size, 0, none⟩) (.inl HL.out) (.int .i64 (n : Int))).setCell (p := ⟨w.heap.size, 1, none⟩) (.inl HL.out) (.string s)).setCell (p := ⟨w.heap.size, 2, none⟩) (.inl HL.out) (.float .f64 0))
              refine bodyPost_ret (results_cell_row Try.results20 _ _ w.heap.size _ _ _ _ rfl (set3v HR3.out _ _ _) Try.underlying58 rfl (by kernel_rfl)) rfl ?_
              exact CEnd.err (x := ((n : Int), s, 0)) HE.out hFe rfl (by show (0 : Nat) < _; decide) hSe

            | ok p =>
              obtain ⟨v, us⟩ := p
              rw [hn] at hm
              obtain ⟨_, rfl, ⟨f, rfl, hf, hcf⟩, A3, c3, hS⟩ := hm
              have HE := Lib.hid (show cmdR xs = .ok (((n : Int), s, v), us) from by rw [HN4.out, hn]; rfl)
              have HS3 := Lib.hid hS
              have HFV := Lib.hid (And.intro hf hcf)
              clear hS hn hf hcf
              have hC := HC3.out.set_ 2 (.float .f64 f)
              have HC6 := Lib.hid (show Blk (w6.setCell ⟨gc, 2, none⟩ (.float .f64 f)) gc 58 #[.int .i64 (n : Int), .string s, .float .f64 f] from hC)
              replace HR3 := Lib.hid (HR3.out.far (p := ⟨gc, 2, none⟩) (by have := HGG.out; show w.heap.size ≠ gc; omega) (.float .f64 f))
              replace HF3 := Lib.hid (HF3.out.setCell (p := ⟨gc, 2, none⟩) (.inr (by have := HGG.out; show w.heap.size ≤ gc; omega)) (.float .f64 f))
              replace HS3 := Lib.hid (HS3.out.fr ((Fr.refl (fun k => gs < k) w6).setCell (p := ⟨gc, 2, none⟩) (.inl (by have := HGG.out; show gs < gc; omega)) (.float .f64 f)))
              clear hC HC3
              have HC3 := HC6
              clear HC6
              have y0 := (HC3.out.cell 0)
              have y1' := (HC3.out.cell 1)
              have y2 := (HC3.out.cell 2)
              have z0 := HR3.out.cell 0
              have z1 := HR3.out.cell 1
              have z2 := HR3.out.cell 2
              have zf := HR3.out.frozen
              simp only [List.setIfInBounds_toArray, List.set_cons_zero, List.set_cons_succ, List.getElem?_toArray, List.getElem?_cons_zero, List.getElem?_cons_succ] at y0 y1' y2 z0 z1 z2
              go_wp2_with fail
              generalize w6.setCell ⟨gc, 2, none⟩ (.float .f64 f) = w5 at HR3 HF3 HS3 ⊢
              have hFe := ((HF3.out.setCell (p := ⟨w.heap.size, 0, none⟩) (.inr (Nat.le_refl _)) (.int .i64 (n : Int))).setCell (p := ⟨w.heap.size, 1, none⟩) (.inr (Nat.le_refl _)) (.string s)).setCell (p := ⟨w.heap.size, 2, none⟩) (.inr (Nat.le_refl _)) (.float .f64 f)
              have hSe := HS3.out.fr ((((Fr.refl (fun k => gs < k) w5).setCell (p := ⟨w.heap.size, 0, none⟩) (.inl HL.out) (.int .i64 (n : Int))).setCell (p := ⟨w.heap.size, 1, none⟩) (.inl HL.out) (.string s)).setCell (p := ⟨w.heap.size, 2, none⟩) (.inl HL.out) (.float .f64 f))
              refine bodyPost_ret (results_cell_row Try.results20 _ _ w.heap.size _ _ _ _ rfl (set3v HR3.out _ _ _) Try.underlying58 rfl (by kernel_rfl)) rfl ?_
              exact CEnd.ok (x := ((n : Int), s, f)) HE.out hFe rfl HFV.out.1 (by unfold canonCmd; rw [HFV.out.2]) (fun h => by rw [Int.toNat_natCast, HH.out] at h; cases h) hSe

          | false =>
            have HE := Lib.hid (show cmdR xs = .ok (((n : Int), s, 0), zs) from by rw [HN3.out, show hasV n = false from HH.out]; rfl)
            have y0 := (HC3.out.cell 0)
            have y1' := (HC3.out.cell 1)
            have y2 := (HC3.out.cell 2)
            have z0 := HR3.out.cell 0
            have z1 := HR3.out.cell 1
            have z2 := HR3.out.cell 2
            have zf := HR3.out.frozen
            simp only [List.setIfInBounds_toArray, List.set_cons_zero, List.set_cons_succ, List.getElem?_toArray, List.getElem?_cons_zero, List.getElem?_cons_succ] at y0 y1' y2 z0 z1 z2
            go_wp2_with fail
            generalize w3.setCell ⟨gc, 1, none⟩ (.string s) = w5 at HR3 HF3 HS3 ⊢
            have hFe := ((HF3.out.setCell (p := ⟨w.heap.size, 0, none⟩) (.inr (Nat.le_refl _)) (.int .i64 (n : Int))).setCell (p := ⟨w.heap.size, 1, none⟩) (.inr (Nat.le_refl _)) (.string s)).setCell (p := ⟨w.heap.size, 2, none⟩) (.inr (Nat.le_refl _)) (.float .f64 0)
            have hSe := HS3.out.fr ((((Fr.refl (fun k => gs < k) w5).setCell (p := ⟨w.heap.size, 0, none⟩) (.inl HL.out) (.int .i64 (n : Int))).setCell (p := ⟨w.heap.size, 1, none⟩) (.inl HL.out) (.string s)).setCell (p := ⟨w.heap.size, 2, none⟩) (.inl HL.out) (.float .f64 0))
            refine bodyPost_ret (results_cell_row Try.results20 _ _ w.heap.size _ _ _ _ rfl (set3v HR3.out _ _ _) Try.underlying58 rfl (by kernel_rfl)) rfl ?_
            exact CEnd.ok (x := ((n : Int), s, 0)) HE.out hFe rfl (by show (0 : Nat) < _; decide) (by unfold canonCmd; simp only [canon0]) (fun _ => rfl) hSe
end Go.Proofs.Ytelfpnpplknlpaa
