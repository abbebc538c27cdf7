/- Texts of Cod, merged (20 of 27): RSrc. -/
import Derived.Test.YtelfpnpplknlpaaGCod17
import Derived.Test.YtelfpnpplknlpaaGCod19
set_option linter.unusedVariables false
set_option linter.unusedSimpArgs false
/- The reference's source of bytes: a number, a key, a float, a command, with the first error kept. -/
namespace Go.Proofs.Ytelfpnpplknlpaa
open Go.RowKit
open Go.Proofs.YtelfpnpplknlpaaW.PrintWords

/-- At gs lies the reference's source of these bytes, with no error yet. -/
structure RSrc (w : World) (gs : Nat) (A : Option Addr) (xs : List Int) (c : Nat) : Prop where
  blk : Blk w gs 54 #[.slice A xs.length c, .int .i64 0]
  cap : xs.length ≤ c
  rd : ∀ w', Fr (fun k => gs ≤ k) w w' → RdB w' A xs
  byt : Byt xs
  small : xs.length ≤ 140737488355328
/-- At gs lies the reference's source with this error. -/
def RErr (w : World) (gs : Nat) (e : Int) : Prop := e ≠ 0 ∧ ∃ A n c, Blk w gs 54 #[.slice A n c, .int .i64 e]
theorem RSrc.fr {w w' : World} {gs : Nat} {A : Option Addr} {xs : List Int} {c : Nat} (h : RSrc w gs A xs c) (hF : Fr (fun k => gs < k) w w') : RSrc w' gs A xs c :=
  ⟨h.blk.fr hF (fun h => Nat.lt_irrefl _ h), h.cap, fun w'' h2 => h.rd w'' ((hF.mono (fun _ _ h => Nat.le_of_lt h)).trans h2), h.byt, h.small⟩
theorem RErr.fr {w w' : World} {gs : Nat} {e : Int} (h : RErr w gs e) (hF : Fr (fun k => gs < k) w w') : RErr w' gs e := by
  obtain ⟨h0, A, n, c, h⟩ := h
  exact ⟨h0, A, n, c, h.fr hF (fun h => Nat.lt_irrefl _ h)⟩
def REnd {α : Type} (w : World) (gs : Nat) (m : Rd α) (z : Value) (V : α → Value → Prop) (r : Ending) (w' : World) : Prop := Fr (fun k => k = gs) w w' ∧ match m with
  | .error e => r = .returned z ∧ RErr w' gs e
  | .ok (a, ys) => ∃ v, r = .returned v ∧ V a v ∧ ∃ A c, RSrc w' gs A ys c
theorem REnd.err {α : Type} {w w' : World} {gs : Nat} {m : Rd α} {z : Value} {V : α → Value → Prop} {e : Int} {r : Ending} (hm : m = .error e) (hF : Fr (fun k => k = gs) w w') (hr : r = .returned z) (h : RErr w' gs e) : REnd w gs m z V r w' := by subst hm; exact ⟨hF, hr, h⟩
theorem REnd.ok {α : Type} {w w' : World} {gs : Nat} {m : Rd α} {z : Value} {V : α → Value → Prop} {a : α} {ys : List Int} {v : Value} {r : Ending} {A : Option Addr} {c : Nat} (hm : m = .ok (a, ys)) (hF : Fr (fun k => k = gs) w w') (hr : r = .returned v) (hv : V a v) (hs : RSrc w' gs A ys c) : REnd w gs m z V r w' := by subst hm; exact ⟨hF, v, hr, hv, A, c, hs⟩
/-- What is left behind k bytes. -/
theorem RSrc.step {w w' : World} {gs : Nat} {A A' : Option Addr} {xs ys : List Int} {c k : Nat} (h : RSrc w gs A xs c) (hF : Fr (fun k => gs ≤ k) w w') (hb : Blk w' gs 54 #[.slice A' ys.length (c - k), .int .i64 0]) (hy : ys = xs.drop k ∧ ys.length ≤ c - k ∧ ∀ w, RdB w A xs → RdB w A' ys) : RSrc w' gs A' ys (c - k) :=
  ⟨hb, hy.2.1, fun w2 h2 => hy.2.2 w2 (h.rd w2 (hF.trans h2)), by rw [hy.1]; exact fun x hx => h.byt x (List.mem_of_mem_drop hx), by rw [hy.1, List.length_drop]; have := h.small; omega⟩
abbrev natV (n : Nat) (v : Value) : Prop := v = .int .i64 (n : Int)
theorem rs_num_err (gs : Nat) (e : Int) (w : World) (h : RErr w gs e) :
    Calls Try.prog 19 #[.pointer (some ⟨gs, 0, none⟩)] w fun r w' => r = .returned (.int .i64 0) ∧ w = w' := by
  obtain ⟨h0, A, n, c, hb⟩ := h
  have c1 := hb.cell 1
  simp only [List.getElem?_toArray, List.getElem?_cons_zero, List.getElem?_cons_succ] at c1
  have te : (e != 0) = true := by simpa using h0
  go_enter Try.func19, Try.ntmps19
  go_wp2_with fail
  go_ret
  exact ⟨rfl, rfl⟩
theorem rs_key_err (gs : Nat) (e : Int) (w : World) (h : RErr w gs e) :
    Calls Try.prog 44 #[.pointer (some ⟨gs, 0, none⟩)] w fun r w' => r = .returned (.string ByteArray.empty) ∧ w = w' := by
  obtain ⟨h0, A, n, c, hb⟩ := h
  have c1 := hb.cell 1
  simp only [List.getElem?_toArray, List.getElem?_cons_zero, List.getElem?_cons_succ] at c1
  have te : (e != 0) = true := by simpa using h0
  go_enter Try.func44, Try.ntmps44
  go_wp2_with fail
  go_ret
  exact ⟨rfl, rfl⟩
theorem rs_float_err (gs : Nat) (e : Int) (w : World) (h : RErr w gs e) :
    Calls Try.prog 45 #[.pointer (some ⟨gs, 0, none⟩)] w fun r w' => r = .returned (.float .f64 0) ∧ w = w' := by
  obtain ⟨h0, A, n, c, hb⟩ := h
  have c1 := hb.cell 1
  simp only [List.getElem?_toArray, List.getElem?_cons_zero, List.getElem?_cons_succ] at c1
  have te : (e != 0) = true := by simpa using h0
  have te2 : (e == 0) = false := by simpa using h0
  go_enter Try.func45, Try.ntmps45
  go_wp2_with fail
  go_ret
  exact ⟨rfl, rfl⟩
set_option maxRecDepth 100000 in
theorem rs_num (gs : Nat) (A : Option Addr) (xs : List Int) (c : Nat) (w : World) (h : RSrc w gs A xs c) :
    Calls Try.prog 19 #[.pointer (some ⟨gs, 0, none⟩)] w (REnd w gs (numR xs) (.int .i64 0) natV) := by
  have HH := Lib.hid h
  have c0 := h.blk.cell 0
  have c1 := h.blk.cell 1
  have ff := h.blk.frozen
  simp only [List.getElem?_toArray, List.getElem?_cons_zero, List.getElem?_cons_succ] at c0 c1
  have HG := Lib.hid (ref_read A xs c w (h.rd w (Fr.refl _ _)) h.byt h.small)
  have hlt := getR_lt xs 0 0 (by omega) (by simp) h.byt
  have hok := getR_ok xs 0 0 (getR xs 0 0).1 (getR xs 0 0).2.1
  have hnum : numR xs = if (getR xs 0 0).2.2 ≠ 0 then .error (getR xs 0 0).2.2 else if 1073741824 < (getR xs 0 0).1 then .error 20 else .ok ((getR xs 0 0).1, xs.drop (getR xs 0 0).2.1) := rfl
  have hcap := h.cap
  obtain ⟨m, hm⟩ : ∃ m, m = (getR xs 0 0).1 := ⟨_, rfl⟩
  obtain ⟨k, hk⟩ : ∃ k, k = (getR xs 0 0).2.1 := ⟨_, rfl⟩
  obtain ⟨e, he⟩ : ∃ e, e = (getR xs 0 0).2.2 := ⟨_, rfl⟩
  have hg : getR xs 0 0 = (m, k, e) := by rw [hm, hk, he]
  rw [← hm, ← hk] at hok
  rw [← hm] at hlt
  rw [← hm, ← hk, ← he] at hnum HG
  have hb1 := h.blk.set_ 1 (.int .i64 e)
  have d1 := hb1.cell 1
  have d0 := hb1.cell 0
  have df := hb1.frozen
  simp only [List.setIfInBounds_toArray, List.set_cons_zero, List.set_cons_succ, List.getElem?_toArray, List.getElem?_cons_zero, List.getElem?_cons_succ] at d0 d1
  have HB1 := Lib.hid (show Blk (w.setCell ⟨gs, 1, none⟩ (.int .i64 e)) gs 54 #[.slice A xs.length c, .int .i64 e] from hb1)
  have HF1 := Lib.hid ((Fr.refl (fun k => k = gs) w).setCell (p := ⟨gs, 1, none⟩) (.inl rfl) (.int .i64 e))
  clear h hm hk he hb1
  by_cases h0 : e = 0
  · have hkl : k ≤ xs.length := by have := (hok (by rw [hg, h0])).2; omega
    rw [if_neg (by simp [h0])] at hnum
    subst h0
    clear hg hok
    by_cases hb : 1073741824 < m
    · rw [if_pos hb] at hnum
      have tb : decide ((1073741824 : Int) < (m : Int)) = true := decide_eq_true (by omega)
      have HN := Lib.hid hnum
      have hb2 := HB1.out.set_ 1 (.int .i64 20)
      have HF2 := Lib.hid (HF1.out.setCell (p := ⟨gs, 1, none⟩) (.inl rfl) (.int .i64 20))
      have HB2 := Lib.hid (show Blk ((w.setCell ⟨gs, 1, none⟩ (.int .i64 0)).setCell ⟨gs, 1, none⟩ (.int .i64 20)) gs 54 #[.slice A xs.length c, .int .i64 20] from hb2)
      have f1 := HB2.out.cell 1
      simp only [List.getElem?_toArray, List.getElem?_cons_zero, List.getElem?_cons_succ] at f1
      clear hnum hb hb2
      go_enter Try.func19, Try.ntmps19
      go_wp2_with fail
      refine HG.out.mono ?_
      rintro r w1 ⟨rfl, rfl⟩
      go_wp2_with fail
      go_ret
      exact REnd.err HN.out HF2.out rfl ⟨by decide, _, _, _, HB2.out⟩
    · rw [if_neg hb] at hnum
      have tb : decide ((1073741824 : Int) < (m : Int)) = false := decide_eq_false (by omega)
      obtain ⟨A', ys, hcut, hy⟩ := cut_from8 A c xs k hkl hcap
      rw [← hy.out.1] at hnum
      have HN := Lib.hid hnum
      have hmb : (m : Int) ≤ 1073741824 := by omega
      clear hnum hb hlt
      go_enter Try.func19, Try.ntmps19
      go_wp2_with fail
      refine HG.out.mono ?_
      rintro r w1 ⟨rfl, rfl⟩
      go_wp2_with fail
      go_ret
      have hF2 := HF1.out.setCell (p := ⟨gs, 0, none⟩) (.inl rfl) (.slice A' ys.length (c - k))
      exact REnd.ok HN.out hF2 rfl rfl (HH.out.step (hF2.mono (fun i _ h => Nat.le_of_eq h.symm)) (HB1.out.set_ 0 _) hy.out)
  · rw [if_pos h0] at hnum
    have HN := Lib.hid hnum
    have te : (e != 0) = true := by simpa using h0
    have te2 : (e == 0) = false := by simpa using h0
    have H0 := Lib.hid h0
    clear hnum hg hok h0
    go_enter Try.func19, Try.ntmps19
    go_wp2_with fail
    refine HG.out.mono ?_
    rintro r w1 ⟨rfl, rfl⟩
    go_wp2_with fail
    go_ret
    exact REnd.err HN.out HF1.out rfl ⟨H0.out, _, _, _, HB1.out⟩
set_option maxRecDepth 100000 in
set_option maxHeartbeats 1000000 in
theorem rs_key (gs : Nat) (A : Option Addr) (xs : List Int) (c : Nat) (w : World) (h : RSrc w gs A xs c) :
    Calls Try.prog 44 #[.pointer (some ⟨gs, 0, none⟩)] w (REnd w gs (keyR xs) (.string ByteArray.empty) fun s v => v = .string s) := by
  have HH := Lib.hid h
  have c0 := h.blk.cell 0
  have c1 := h.blk.cell 1
  have ff := h.blk.frozen
  simp only [List.getElem?_toArray, List.getElem?_cons_zero, List.getElem?_cons_succ] at c0 c1
  have HG := Lib.hid (ref_read A xs c w (h.rd w (Fr.refl _ _)) h.byt h.small)
  have hlt := getR_lt xs 0 0 (by omega) (by simp) h.byt
  have hok := getR_ok xs 0 0 (getR xs 0 0).1 (getR xs 0 0).2.1
  have hcap := h.cap
  have hsm := h.small
  obtain ⟨m, hm⟩ : ∃ m, m = (getR xs 0 0).1 := ⟨_, rfl⟩
  obtain ⟨k, hk⟩ : ∃ k, k = (getR xs 0 0).2.1 := ⟨_, rfl⟩
  obtain ⟨e, he⟩ : ∃ e, e = (getR xs 0 0).2.2 := ⟨_, rfl⟩
  have hg : getR xs 0 0 = (m, k, e) := by rw [hm, hk, he]
  rw [← hm, ← hk] at hok
  rw [← hm] at hlt
  rw [← hm, ← hk, ← he] at HG
  have hb1 := h.blk.set_ 1 (.int .i64 e)
  have d1 := hb1.cell 1
  have d0 := hb1.cell 0
  have df := hb1.frozen
  simp only [List.setIfInBounds_toArray, List.set_cons_zero, List.set_cons_succ, List.getElem?_toArray, List.getElem?_cons_zero, List.getElem?_cons_succ] at d0 d1
  have HB1 := Lib.hid (show Blk (w.setCell ⟨gs, 1, none⟩ (.int .i64 e)) gs 54 #[.slice A xs.length c, .int .i64 e] from hb1)
  have HF1 := Lib.hid ((Fr.refl (fun k => k = gs) w).setCell (p := ⟨gs, 1, none⟩) (.inl rfl) (.int .i64 e))
  clear h hm hk he hb1
  by_cases h0 : e = 0
  · have hkl : k ≤ xs.length := by have := (hok (by rw [hg, h0])).2; omega
    subst h0
    by_cases hb : 12 < m
    · have hT : keyR xs = .error 18 := by
        have h1 : textR xs 12 = ([], 0, 18) := by unfold textR; rw [hg, if_neg (fun h => h rfl), if_pos (.inr (by simp only; omega))]
        unfold keyR; rw [h1]; rfl
      have tb : decide ((12 : Int) < (m : Int)) = true := decide_eq_true (by omega)
      have HN := Lib.hid hT
      have hb2 := HB1.out.set_ 1 (.int .i64 18)
      have HF2 := Lib.hid (HF1.out.setCell (p := ⟨gs, 1, none⟩) (.inl rfl) (.int .i64 18))
      have HB2 := Lib.hid (show Blk ((w.setCell ⟨gs, 1, none⟩ (.int .i64 0)).setCell ⟨gs, 1, none⟩ (.int .i64 18)) gs 54 #[.slice A xs.length c, .int .i64 18] from hb2)
      have f1 := HB2.out.cell 1
      simp only [List.getElem?_toArray, List.getElem?_cons_zero, List.getElem?_cons_succ] at f1
      clear hT hb hb2 hg hok
      go_enter Try.func44, Try.ntmps44
      go_wp2_with fail
      refine HG.out.mono ?_
      rintro r w1 ⟨rfl, rfl⟩
      go_wp2_with fail
      go_ret
      exact REnd.err HN.out HF2.out rfl ⟨by decide, _, _, _, HB2.out⟩
    · have tb : decide ((12 : Int) < (m : Int)) = false := decide_eq_false (by omega)
      have hmb : (m : Int) ≤ 12 := by omega
      by_cases hb2 : xs.length - k < m
      · have hT : keyR xs = .error 4 := by
          have h1 : textR xs 12 = ([], 0, 4) := by unfold textR; rw [hg, if_neg (fun h => h rfl), if_neg (by simp only; omega), if_pos (by simp only; omega)]
          unfold keyR; rw [h1]; rfl
        have tb2 : decide ((xs.length : Int) - (k : Int) < (m : Int)) = true := decide_eq_true (by omega)
        have HN := Lib.hid hT
        have hb3 := HB1.out.set_ 1 (.int .i64 4)
        have HF2 := Lib.hid (HF1.out.setCell (p := ⟨gs, 1, none⟩) (.inl rfl) (.int .i64 4))
        have HB2 := Lib.hid (show Blk ((w.setCell ⟨gs, 1, none⟩ (.int .i64 0)).setCell ⟨gs, 1, none⟩ (.int .i64 4)) gs 54 #[.slice A xs.length c, .int .i64 4] from hb3)
        have f1 := HB2.out.cell 1
        simp only [List.getElem?_toArray, List.getElem?_cons_zero, List.getElem?_cons_succ] at f1
        clear hT hb hb2 hb3 hg hok
        go_enter Try.func44, Try.ntmps44
        go_wp2_with fail
        refine HG.out.mono ?_
        rintro r w1 ⟨rfl, rfl⟩
        go_wp2_with fail
        go_ret
        exact REnd.err HN.out HF2.out rfl ⟨by decide, _, _, _, HB2.out⟩
      · have tb2 : decide ((xs.length : Int) - (k : Int) < (m : Int)) = false := decide_eq_false (by omega)
        obtain ⟨q, hq⟩ : ∃ q, q = k + m := ⟨_, rfl⟩
        obtain ⟨A1, zs, hmid, hz⟩ := cut_mid8 A c xs k q (by omega) (by omega) hcap
        obtain ⟨A2, ys, hcut, hy⟩ := cut_from8 A c xs q (by omega) hcap
        have hT : keyR xs = .ok (strOfNums zs, ys) := by
          have h1 : textR xs 12 = ((xs.take (k + m)).drop k, k + m, 0) := by unfold textR; rw [hg, if_neg (fun h => h rfl), if_neg (by simp only; omega), if_neg (by simp only; omega)]
          unfold keyR; rw [h1, if_neg (by simp), hz.out.1, hy.out.1, hq]
        have HN := Lib.hid hT
        have hkm : ((k : Int) + (m : Int)) = (q : Int) := by omega
        have hcv := conv_str8 (c := c - k) (hz.out.2.2 _ (HH.out.rd _ (HF1.out.mono (fun i _ h => Nat.le_of_eq h.symm))))
        have hkb : (k : Int) ≤ 140737488355328 := by omega
        clear hT hb hb2 hg hok hlt hq
        go_enter Try.func44, Try.ntmps44
        go_wp2_with fail
        refine HG.out.mono ?_
        rintro r w1 ⟨rfl, rfl⟩
        go_wp2_with fail
        go_ret
        have hF2 := HF1.out.setCell (p := ⟨gs, 0, none⟩) (.inl rfl) (.slice A2 ys.length (c - q))
        exact REnd.ok HN.out hF2 rfl rfl (HH.out.step (hF2.mono (fun i _ h => Nat.le_of_eq h.symm)) (HB1.out.set_ 0 _) hy.out)
  · have hT : keyR xs = .error e := by
      have h1 : textR xs 12 = ([], 0, e) := by unfold textR; rw [hg, if_pos h0]
      unfold keyR; rw [h1, if_pos h0]
    have HN := Lib.hid hT
    have te : (e != 0) = true := by simpa using h0
    have te2 : (e == 0) = false := by simpa using h0
    have H0 := Lib.hid h0
    clear hT hg hok h0
    go_enter Try.func44, Try.ntmps44
    go_wp2_with fail
    refine HG.out.mono ?_
    rintro r w1 ⟨rfl, rfl⟩
    go_wp2_with fail
    go_ret
    exact REnd.err HN.out HF1.out rfl ⟨H0.out, _, _, _, HB1.out⟩
/-- A float that is, as a key, this one. -/
def fltV (v : Nat) (x : Value) : Prop := ∃ f, x = .float .f64 f ∧ f < 18446744073709551616 ∧ canonP f = v
set_option maxRecDepth 100000 in
set_option maxHeartbeats 1000000 in
theorem rs_float (gs : Nat) (A : Option Addr) (xs : List Int) (c : Nat) (w : World) (h : RSrc w gs A xs c) :
    Calls Try.prog 45 #[.pointer (some ⟨gs, 0, none⟩)] w (REnd w gs (valR xs) (.float .f64 0) fltV) := by
  have HH := Lib.hid h
  have c0 := h.blk.cell 0
  have c1 := h.blk.cell 1
  have ff := h.blk.frozen
  simp only [List.getElem?_toArray, List.getElem?_cons_zero, List.getElem?_cons_succ] at c0 c1
  have hcap := h.cap
  have hsm := h.small
  have hby := Lib.hid h.byt
  have hnum : valR xs = if xs.length < 8 then .error 4 else if canonP (beVal (xs.take 8)) ≠ beVal (xs.take 8) then .error 3 else .ok (beVal (xs.take 8), xs.drop 8) := rfl
  clear h
  by_cases h8 : xs.length < 8
  · rw [if_pos h8] at hnum
    have HN := Lib.hid hnum
    have tb : decide ((xs.length : Int) < 8) = true := decide_eq_true (by omega)
    have tb' : decide (xs.length < 8) = true := decide_eq_true (by omega)
    have hb1 := HH.out.blk.set_ 1 (.int .i64 4)
    have HB1 := Lib.hid (show Blk (w.setCell ⟨gs, 1, none⟩ (.int .i64 4)) gs 54 #[.slice A xs.length c, .int .i64 4] from hb1)
    have d1 := HB1.out.cell 1
    simp only [List.getElem?_toArray, List.getElem?_cons_zero, List.getElem?_cons_succ] at d1
    clear hnum h8 hb1
    go_enter Try.func45, Try.ntmps45
    go_wp2_with fail
    go_ret
    exact REnd.err HN.out ((Fr.refl (fun k => k = gs) w).setCell (p := ⟨gs, 1, none⟩) (.inl rfl) (.int .i64 4)) rfl ⟨by decide, _, _, _, HB1.out⟩
  · rw [if_neg h8] at hnum
    have tb : decide ((xs.length : Int) < 8) = false := decide_eq_false (by omega)
    have tb' : decide (xs.length < 8) = false := decide_eq_false (by omega)
    have HN := Lib.hid hnum
    have hry := Lib.hid (HH.out.rd w (Fr.refl _ _))
    have h8' : 8 ≤ xs.length := by omega
    clear hnum h8
    go_enter Try.func45, Try.ntmps45
    go_wp2_with fail
    clear tb tb'
    go_loop [3, 4] (fun n i => ∃ (k q : Nat), k ≤ 8 ∧ i = .int .i64 k ∧ n = .int .u64 q ∧ Hid (q = beVal (xs.take k))) (fun _ i => 8 - (intOf i).toNat)
    case atStart => exact ⟨0, 0, by omega, rfl, rfl, rfl⟩
    case round =>
      obtain ⟨k, q, hk, rfl, rfl, hq⟩ := hrel
      rcases Nat.lt_or_ge k 8 with hlt | hge
      · obtain ⟨bb, off, hA, hc⟩ := RdB.at_ hry.out (k := k) (by omega)
        subst hA
        obtain ⟨h0, h1⟩ := hby.out _ (rd_mem (k := k) (by omega))
        have hql : q < 72057594037927936 := by
          have h2 := beVal_lt (xs.take k) (fun x h => hby.out x (List.mem_of_mem_take h))
          rw [← hq.out, List.length_take, Nat.min_eq_left (by omega)] at h2
          have : 256 ^ k ≤ 256 ^ 7 := Nat.pow_le_pow_right (by omega) (by omega)
          omega
        have HNX : Hid (beVal (xs.take (k + 1)) = q * 256 + (rd xs k).toNat) := by
          have h2 := take_rd (xs := xs) (k := k) (by omega)
          show _ = _
          rw [h2, beVal_snoc, ← hq.out]
        have HQ := hq
        have tlt : decide ((k : Int) < 8) = true := decide_eq_true (by omega)
        have tlt' : decide (k < 8) = true := decide_eq_true hlt
        clear hq
        generalize rd xs ↑k = b at *
        go_wp2_with fail
        refine ⟨⟨k + 1, q * 256 + b.toNat, by omega, by go_num, ?_, HNX.out.symm⟩, by simp [intOf]; omega⟩
        congr 1
        omega
      · obtain rfl : k = 8 := by omega
        have tlt : decide (((8 : Nat) : Int) < 8) = false := by decide
        rw [← hq.out] at HN
        have hqb : q < 18446744073709551616 := by
          have h2 := beVal_lt (xs.take 8) (fun x h => hby.out x (List.mem_of_mem_take h))
          rw [← hq.out, List.length_take, Nat.min_eq_left h8'] at h2
          exact h2
        obtain ⟨A', ys, hcut, hy⟩ := cut_from8 A c xs 8 h8' hcap
        replace hcut : ∀ W : World, (Instr.slice 22 (.slice A xs.length c) (some (.int .i64 8)) none none).run Try.prog W = .ok (.slice A' ys.length (c - 8)) W := hcut
        have HQB := Lib.hid hqb
        clear hge hk hqb hq
        go_wp2_with fail
        refine (ref_number q HQB.out w).mono ?_
        rintro r w1 ⟨f, rfl, hf, hcf, hF1⟩
        have HF1 := Lib.hid (hF1.mono (S' := fun k => k = gs) (fun _ _ h => h.elim))
        have HBK := Lib.hid (HH.out.blk.fr hF1 (fun h => h))
        have e0 := HBK.out.cell 0
        have e1 := HBK.out.cell 1
        have ef := HBK.out.frozen
        simp only [List.getElem?_toArray, List.getElem?_cons_zero, List.getElem?_cons_succ] at e0 e1
        have HFF := Lib.hid (And.intro hf hcf)
        clear hf hcf hF1 c0 c1 ff tlt
        by_cases hc : canonP q = q
        · have HC := Lib.hid (show valR xs = .ok (q, ys) from by rw [HN.out, if_neg (fun h => h hc), hy.out.1])
          rw [decide_eq_true hc]
          have HCQ := Lib.hid hc
          clear hc
          go_wp2_with fail
          go_ret
          have hF2 := HF1.out.setCell (p := ⟨gs, 0, none⟩) (.inl rfl) (.slice A' ys.length (c - 8))
          exact REnd.ok HC.out hF2 rfl ⟨f, rfl, HFF.out.1, HFF.out.2.trans HCQ.out⟩ (HH.out.step (hF2.mono (fun i _ h => Nat.le_of_eq h.symm)) (HBK.out.set_ 0 _) hy.out)
        · have HC := Lib.hid (show valR xs = .error 3 from by rw [HN.out, if_pos hc])
          rw [decide_eq_false hc]
          clear hc
          go_wp2_with fail
          go_ret
          exact REnd.err HC.out (HF1.out.setCell (p := ⟨gs, 1, none⟩) (.inl rfl) (.int .i64 3)) rfl ⟨by decide, _, _, _, HBK.out.set_ 1 (.int .i64 3)⟩
end Go.Proofs.Ytelfpnpplknlpaa
