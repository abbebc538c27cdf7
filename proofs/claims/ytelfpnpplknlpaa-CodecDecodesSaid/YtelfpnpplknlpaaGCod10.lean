/- Texts of Cod, merged (10 of 27): CodS. -/
import Derived.Test.YtelfpnpplknlpaaGCod9
import Derived.Test.YtelfpnpplknlpaaGCod2
import Derived.WalkLawsBesides
set_option linter.unusedVariables false
set_option linter.unusedSimpArgs false
/- The code's source of bytes: a number, a key, a value, a command; what is wrong is a panic. -/
namespace Go.Proofs.Ytelfpnpplknlpaa
open Go.RowKit
open Go.Proofs.YtelfpnpplknlpaaW.PrintWords

/-- What gives up: an answer as a panic. -/
def panE (e : Int) : Ending := .panicked [{ v := .iface 33 (.int .i64 e), recovered := false }]
theorem must_ok (w : World) : Calls Try.prog 41 #[.int .i64 0] w fun r w' => r = .returned (.tuple #[]) ∧ w = w' := by
  go_enter Try.func41, Try.ntmps41
  go_wp2_with fail
  first | go_end0 | refine bodyPost_ret (results_none rfl _ _ _) rfl ?_
  exact ⟨rfl, rfl⟩
theorem must_no (e : Int) (he : e ≠ 0) (w : World) : Calls Try.prog 41 #[.int .i64 e] w fun r w' => r = panE e ∧ w = w' := by
  have h : (e != 0) = true := by simpa using he
  have h2 : (e == 0) = false := by simpa using he
  go_enter Try.func41, Try.ntmps41
  go_wp2_with fail
  exact ⟨rfl, rfl, rfl⟩
/-- At gs lies a source of these bytes. -/
structure SrcAt (w : World) (gs : Nat) (A : Option Addr) (xs : List Int) (c : Nat) : Prop where
  blk : Blk w gs 50 #[.slice A xs.length c]
  cap : xs.length ≤ c
  rd : ∀ w', Fr (fun k => gs ≤ k) w w' → RdB w' A xs
  byt : Byt xs
  small : xs.length ≤ 140737488355328
def SrcEnd {α : Type} (w : World) (gs : Nat) (m : Rd α) (enc : α → Value) (r : Ending) (w' : World) : Prop := Fr (fun k => k = gs) w w' ∧ match m with
  | .error e => r = panE e
  | .ok (a, ys) => r = .returned (enc a) ∧ ∃ A c, SrcAt w' gs A ys c
theorem SrcEnd.err {α : Type} {w w' : World} {gs : Nat} {m : Rd α} {enc : α → Value} {e : Int} {r : Ending} (hm : m = .error e) (hF : Fr (fun k => k = gs) w w') (hr : r = panE e) : SrcEnd w gs m enc r w' := by subst hm; exact ⟨hF, hr⟩
theorem SrcEnd.ok {α : Type} {w w' : World} {gs : Nat} {m : Rd α} {enc : α → Value} {a : α} {ys : List Int} {r : Ending} {A : Option Addr} {c : Nat} (hm : m = .ok (a, ys)) (hF : Fr (fun k => k = gs) w w') (hr : r = .returned (enc a)) (hs : SrcAt w' gs A ys c) : SrcEnd w gs m enc r w' := by subst hm; exact ⟨hF, hr, A, c, hs⟩
/-- What is left behind k bytes. -/
theorem SrcAt.step {w : World} {gs : Nat} {A A' : Option Addr} {xs ys : List Int} {c k : Nat} (h : SrcAt w gs A xs c) (hy : ys = xs.drop k ∧ ys.length ≤ c - k ∧ ∀ w, RdB w A xs → RdB w A' ys) : SrcAt (w.setCell ⟨gs, 0, none⟩ (.slice A' ys.length (c - k))) gs A' ys (c - k) :=
  ⟨h.blk.set_ 0 _, hy.2.1, fun w' hF => hy.2.2 w' (h.rd w' (((Fr.refl (fun k => gs ≤ k) w).setCell (p := ⟨gs, 0, none⟩) (.inl (Nat.le_refl _)) _).trans hF)), by rw [hy.1]; exact fun x hx => h.byt x (List.mem_of_mem_drop hx), by rw [hy.1, List.length_drop]; have := h.small; omega⟩
set_option maxRecDepth 100000 in
theorem src_num (gs : Nat) (A : Option Addr) (xs : List Int) (c : Nat) (w : World) (h : SrcAt w gs A xs c) :
    Calls Try.prog 40 #[.pointer (some ⟨gs, 0, none⟩)] w (SrcEnd w gs (numR xs) fun n => .int .i64 (n : Int)) := by
  have HH := Lib.hid h
  have c0 := h.blk.cell 0
  have ff := h.blk.frozen
  simp only [List.getElem?_toArray, List.getElem?_cons_zero] at c0
  have HG := Lib.hid (wire_get A xs c w (h.rd w (Fr.refl _ _)) h.byt h.small)
  have hlt := getR_lt xs 0 0 (by omega) (by simp) h.byt
  have hok := getR_ok xs 0 0 (getR xs 0 0).1 (getR xs 0 0).2.1
  have hnum : numR xs = if (getR xs 0 0).2.2 ≠ 0 then .error (getR xs 0 0).2.2 else if 1073741824 < (getR xs 0 0).1 then .error 20 else .ok ((getR xs 0 0).1, xs.drop (getR xs 0 0).2.1) := rfl
  have hcap := h.cap
  have hsm := h.small
  obtain ⟨m, hm⟩ : ∃ m, m = (getR xs 0 0).1 := ⟨_, rfl⟩
  obtain ⟨k, hk⟩ : ∃ k, k = (getR xs 0 0).2.1 := ⟨_, rfl⟩
  obtain ⟨e, he⟩ : ∃ e, e = (getR xs 0 0).2.2 := ⟨_, rfl⟩
  have hg : getR xs 0 0 = (m, k, e) := by rw [hm, hk, he]
  rw [← hm, ← hk] at hok
  rw [← hm] at hlt
  rw [← hm, ← hk, ← he] at hnum HG
  clear h hm hk he
  by_cases h0 : e = 0
  · have hkl : k ≤ xs.length := by have := (hok (by rw [hg, h0])).2; omega
    rw [if_neg (by simp [h0])] at hnum
    subst h0
    clear hg hok
    by_cases hb : 1073741824 < m
    · rw [if_pos hb] at hnum
      have tb : decide ((1073741824 : Int) < (m : Int)) = true := decide_eq_true (by omega)
      have HN := Lib.hid hnum
      clear hnum hb
      go_enter Try.func40, Try.ntmps40
      go_wp2_with fail
      refine HG.out.mono ?_
      rintro r w1 ⟨rfl, rfl⟩
      go_wp2_with fail
      refine (must_ok _).mono ?_
      rintro r w1 ⟨rfl, rfl⟩
      go_wp2_with fail
      refine (must_no 20 (by decide) _).mono ?_
      rintro r w1 ⟨rfl, rfl⟩
      exact ⟨rfl, SrcEnd.err HN.out (Fr.refl _ _) rfl⟩
    · rw [if_neg hb] at hnum
      have tb : decide ((1073741824 : Int) < (m : Int)) = false := decide_eq_false (by omega)
      obtain ⟨A', ys, hcut, hy⟩ := cut_from8 A c xs k hkl hcap
      rw [← hy.out.1] at hnum
      have HN := Lib.hid hnum
      have hmb : (m : Int) ≤ 1073741824 := by omega
      clear hnum hb hlt
      go_enter Try.func40, Try.ntmps40
      go_wp2_with fail
      refine HG.out.mono ?_
      rintro r w1 ⟨rfl, rfl⟩
      go_wp2_with fail
      refine (must_ok _).mono ?_
      rintro r w1 ⟨rfl, rfl⟩
      go_wp2_with fail
      go_ret
      exact SrcEnd.ok HN.out ((Fr.refl (fun k => k = gs) w).setCell (p := ⟨gs, 0, none⟩) (.inl rfl) _) rfl (HH.out.step hy.out)
  · rw [if_pos h0] at hnum
    have HN := Lib.hid hnum
    clear hnum hg hok
    go_enter Try.func40, Try.ntmps40
    go_wp2_with fail
    refine HG.out.mono ?_
    rintro r w1 ⟨rfl, rfl⟩
    go_wp2_with fail
    refine (must_no e h0 _).mono ?_
    rintro r w1 ⟨rfl, rfl⟩
    exact ⟨rfl, SrcEnd.err HN.out (Fr.refl _ _) rfl⟩
theorem textR_ok {xs : List Int} (hb : Byt xs) (h : (textR xs 12).2.2 = 0) : (textR xs 12).2.1 ≤ xs.length := by
  by_cases h0 : (getR xs 0 0).2.2 = 0
  · by_cases h1 : (12 : Int) < 0 ∨ (12 : Int) < (getR xs 0 0).1
    · have hT : textR xs 12 = ([], 0, 18) := by unfold textR; rw [if_neg (fun h => h h0), if_pos h1]
      rw [hT] at h; cases h
    · by_cases h2 : xs.length - (getR xs 0 0).2.1 < (getR xs 0 0).1
      · have hT : textR xs 12 = ([], 0, 4) := by unfold textR; rw [if_neg (fun h => h h0), if_neg h1, if_pos h2]
        rw [hT] at h; cases h
      · have hT : textR xs 12 = ((xs.take ((getR xs 0 0).2.1 + (getR xs 0 0).1)).drop (getR xs 0 0).2.1, (getR xs 0 0).2.1 + (getR xs 0 0).1, 0) := by unfold textR; rw [if_neg (fun h => h h0), if_neg h1, if_neg h2]
        rw [hT]
        have := getR_ok xs 0 0 (getR xs 0 0).1 (getR xs 0 0).2.1 (by rw [← h0])
        simp only
        omega
  · have hT : textR xs 12 = ([], 0, (getR xs 0 0).2.2) := by unfold textR; rw [if_pos h0]
    rw [hT] at h; exact absurd h h0
set_option maxRecDepth 100000 in
theorem src_key (gs : Nat) (A : Option Addr) (xs : List Int) (c : Nat) (w : World) (h : SrcAt w gs A xs c) :
    Calls Try.prog 58 #[.pointer (some ⟨gs, 0, none⟩)] w (SrcEnd w gs (keyR xs) fun s => .string s) := by
  have HH := Lib.hid h
  have c0 := h.blk.cell 0
  have ff := h.blk.frozen
  simp only [List.getElem?_toArray, List.getElem?_cons_zero] at c0
  have HG := Lib.hid (wire_getText A xs c 12 w (h.rd w (Fr.refl _ _)) h.byt h.small h.cap (by decide) (by decide))
  have hok := textR_ok h.byt
  have hnum : keyR xs = if (textR xs 12).2.2 ≠ 0 then .error (textR xs 12).2.2 else .ok (strOfNums (textR xs 12).1, xs.drop (textR xs 12).2.1) := rfl
  have hcap := h.cap
  obtain ⟨s, hs⟩ : ∃ s, s = strOfNums (textR xs 12).1 := ⟨_, rfl⟩
  obtain ⟨k, hk⟩ : ∃ k, k = (textR xs 12).2.1 := ⟨_, rfl⟩
  obtain ⟨e, he⟩ : ∃ e, e = (textR xs 12).2.2 := ⟨_, rfl⟩
  rw [← hk, ← he] at hok
  rw [← hs, ← hk, ← he] at hnum HG
  clear h hs hk he
  by_cases h0 : e = 0
  · have hkl := hok h0
    rw [if_neg (by simp [h0])] at hnum
    subst h0
    clear hok
    obtain ⟨A', ys, hcut, hy⟩ := cut_from8 A c xs k hkl hcap
    rw [← hy.out.1] at hnum
    have HN := Lib.hid hnum
    clear hnum
    go_enter Try.func58, Try.ntmps58
    go_wp2_with fail
    refine HG.out.mono ?_
    rintro r w1 ⟨rfl, rfl⟩
    go_wp2_with fail
    refine (must_ok _).mono ?_
    rintro r w1 ⟨rfl, rfl⟩
    go_wp2_with fail
    go_ret
    exact SrcEnd.ok HN.out ((Fr.refl (fun k => k = gs) w).setCell (p := ⟨gs, 0, none⟩) (.inl rfl) _) rfl (HH.out.step hy.out)
  · rw [if_pos h0] at hnum
    have HN := Lib.hid hnum
    clear hnum hok
    go_enter Try.func58, Try.ntmps58
    go_wp2_with fail
    refine HG.out.mono ?_
    rintro r w1 ⟨rfl, rfl⟩
    go_wp2_with fail
    refine (must_no e h0 _).mono ?_
    rintro r w1 ⟨rfl, rfl⟩
    exact ⟨rfl, SrcEnd.err HN.out (Fr.refl _ _) rfl⟩
set_option maxRecDepth 100000 in
theorem src_value (gs : Nat) (A : Option Addr) (xs : List Int) (c : Nat) (w : World) (h : SrcAt w gs A xs c) :
    Calls Try.prog 59 #[.pointer (some ⟨gs, 0, none⟩)] w (SrcEnd w gs (valR xs) fun v => .float .f64 v) := by
  have HH := Lib.hid h
  have c0 := h.blk.cell 0
  have ff := h.blk.frozen
  simp only [List.getElem?_toArray, List.getElem?_cons_zero] at c0
  have hcap := h.cap
  have hnum : valR xs = if xs.length < 8 then .error 4 else if canonP (beVal (xs.take 8)) ≠ beVal (xs.take 8) then .error 3 else .ok (beVal (xs.take 8), xs.drop 8) := rfl
  by_cases h8 : xs.length < 8
  · rw [if_pos h8] at hnum
    have HN := Lib.hid hnum
    have HG := Lib.hid (wire_getEight_no A xs c w h8)
    clear hnum h h8
    go_enter Try.func59, Try.ntmps59
    go_wp2_with fail
    refine HG.out.mono ?_
    rintro r w1 ⟨rfl, rfl⟩
    go_wp2_with fail
    refine (must_no 4 (by decide) _).mono ?_
    rintro r w1 ⟨rfl, rfl⟩
    exact ⟨rfl, SrcEnd.err HN.out (Fr.refl _ _) rfl⟩
  · rw [if_neg h8] at hnum
    have HG := Lib.hid (wire_getEight A xs c w (h.rd w (Fr.refl _ _)) h.byt h.small h.cap (by omega))
    obtain ⟨v, hv⟩ : ∃ v, v = beVal (xs.take 8) := ⟨_, rfl⟩
    rw [← hv] at hnum HG
    have g1 := ex_from v
    obtain ⟨q, hq⟩ : ∃ q, q = canonP v := ⟨_, rfl⟩
    have HB := Lib.hid (fun w => real_bits v w)
    rw [← hq] at hnum HB
    clear hq hv
    by_cases hc : q = v
    · rw [if_neg (by simp [hc])] at hnum
      subst hc
      have tq : ((q : Int) != (q : Int)) = false := by simp
      obtain ⟨A', ys, hcut, hy⟩ := cut_from8 A c xs 8 (by omega) hcap
      replace hcut : ∀ W : World, (Instr.slice 22 (.slice A xs.length c) (some (.int .i64 8)) none none).run Try.prog W = .ok (.slice A' ys.length (c - 8)) W := hcut
      rw [← hy.out.1] at hnum
      have HN := Lib.hid hnum
      clear hnum h h8
      go_enter Try.func59, Try.ntmps59
      go_wp2_with fail
      refine HG.out.mono ?_
      rintro r w1 ⟨rfl, rfl⟩
      go_wp2_with fail
      refine (must_ok _).mono ?_
      rintro r w1 ⟨rfl, rfl⟩
      go_wp2_with fail
      refine (HB.out _).mono ?_
      rintro r w1 ⟨rfl, rfl⟩
      go_wp2_with fail
      go_ret
      exact SrcEnd.ok HN.out ((Fr.refl (fun k => k = gs) w).setCell (p := ⟨gs, 0, none⟩) (.inl rfl) _) rfl (HH.out.step hy.out)
    · rw [if_pos hc] at hnum
      have tq : ((q : Int) != (v : Int)) = true := by simp; omega
      have tq' : ((q : Int) == (v : Int)) = false := by simp; omega
      have HN := Lib.hid hnum
      clear hnum h h8 hc
      go_enter Try.func59, Try.ntmps59
      go_wp2_with fail
      refine HG.out.mono ?_
      rintro r w1 ⟨rfl, rfl⟩
      go_wp2_with fail
      refine (must_ok _).mono ?_
      rintro r w1 ⟨rfl, rfl⟩
      go_wp2_with fail
      refine (HB.out _).mono ?_
      rintro r w1 ⟨rfl, rfl⟩
      go_wp2_with fail
      refine (must_no 3 (by decide) _).mono ?_
      rintro r w1 ⟨rfl, rfl⟩
      exact ⟨rfl, SrcEnd.err HN.out (Fr.refl _ _) rfl⟩
theorem cod_has (k : Nat) (w : World) : Calls Try.prog 27 #[.int .i64 (k : Int)] w fun r w' => r = .returned (.bool (hasV k)) ∧ w = w' := by
  have key : ∀ b1 b2 : Bool, ((k : Int) == 2) = b1 → ((k : Int) == 4) = b2 → hasV k = (b1 || b2) → Calls Try.prog 27 #[.int .i64 (k : Int)] w fun r w' => r = .returned (.bool (hasV k)) ∧ w = w' := fun b1 b2 h1 h2 h3 => by
    rw [h3]
    clear h3
    cases b1 <;> cases b2
    all_goals
      go_enter Try.func27, Try.ntmps27
      go_wp2_with fail
      go_ret
      exact ⟨rfl, rfl⟩
  refine key _ _ rfl rfl ?_
  unfold hasV
  have e1 : ((k : Int) == 2) = (k == 2) := by rw [Bool.eq_iff_iff]; simp; omega
  have e2 : ((k : Int) == 4) = (k == 4) := by rw [Bool.eq_iff_iff]; simp; omega
  rw [e1, e2]
theorem SrcAt.fr {w w' : World} {gs : Nat} {A : Option Addr} {xs : List Int} {c : Nat} (h : SrcAt w gs A xs c) (hF : Fr (fun _ => False) w w') : SrcAt w' gs A xs c :=
  ⟨h.blk.fr hF (fun h => h), h.cap, fun w'' h2 => h.rd w'' ((hF.mono (fun _ _ h => h.elim)).trans h2), h.byt, h.small⟩
/-- What is changed behind the source does not matter. -/
theorem SrcAt.far {w w' : World} {gs : Nat} {A : Option Addr} {xs : List Int} {c : Nat} (h : SrcAt w gs A xs c) (hF : Fr (fun k => gs < k) w w') : SrcAt w' gs A xs c :=
  ⟨h.blk.fr hF (fun h => Nat.lt_irrefl _ h), h.cap, fun w'' h2 => h.rd w'' ((hF.mono (fun _ _ h => Nat.le_of_lt h)).trans h2), h.byt, h.small⟩
theorem set3v {w : World} {g : Nat} {t : TypeId} {a0 a1 a2 : Value} (h : Blk w g t #[a0, a1, a2]) (v0 v1 v2 : Value) :
    Blk (((w.setCell ⟨g, 0, none⟩ v0).setCell ⟨g, 1, none⟩ v1).setCell ⟨g, 2, none⟩ v2) g t #[v0, v1, v2] := ((h.set_ 0 v0).set_ 1 v1).set_ 2 v2
set_option maxRecDepth 100000 in
set_option maxHeartbeats 4000000 in
theorem src_cmd (gs : Nat) (A : Option Addr) (xs : List Int) (c : Nat) (w : World) (h : SrcAt w gs A xs c) :
    Calls Try.prog 42 #[.pointer (some ⟨gs, 0, none⟩)] w (SrcEnd w gs (cmdR xs) cmdV) := by
  have hF0 := (Fr.refl (fun _ => False) w).alloc (.cells #[.int .i64 0, .string ByteArray.empty, .float .f64 0] 58)
  have hB0 := Blk.new w 58 #[.int .i64 0, .string ByteArray.empty, .float .f64 0]
  have HS := Lib.hid (h.fr hF0)
  have HF0 := Lib.hid hF0
  have HB0 := Lib.hid hB0
  have HL := Lib.hid h.blk.lt
  have hdef : cmdR xs = thenR (numR xs) fun k ys => if k < 1 ∨ 4 < k then .error 12 else thenR (keyR ys) fun s zs => if hasV k then thenR (valR zs) fun v us => .ok (((k : Int), s, v), us) else .ok (((k : Int), s, 0), zs) := rfl
  have HD := Lib.hid hdef
  clear h hF0 hB0 hdef
  go_enter Try.func42, Try.ntmps42
  go_wp2_with fail
  refine (src_num gs A xs c _ HS.out).mono ?_
  rintro r w1 ⟨hF1, hm⟩
  cases hn : numR xs with
  | error e =>
    rw [hn] at hm
    subst hm
    have HN := hn
    refine ⟨rfl, SrcEnd.err (by rw [HD.out, hn]; rfl) ((HF0.out.mono (fun _ _ h => h.elim)).trans hF1) rfl⟩
  | ok p =>
    obtain ⟨n, ys⟩ := p
    rw [hn] at hm
    obtain ⟨rfl, A1, c1, hS1⟩ := hm
    have hd := HD.out
    rw [hn, thenR_ok rfl] at hd
    have HN := Lib.hid hd
    have HF1 := Lib.hid ((HF0.out.mono (fun _ _ h => h.elim)).trans hF1)
    have HR1 := Lib.hid (HB0.out.fr hF1 (fun e => by have := HL.out; omega))
    have HS1 := Lib.hid hS1
    have HB2 := Lib.hid (Blk.new w1 58 #[.int .i64 (n : Int), .string ByteArray.empty, .float .f64 0])
    have HF2 := Lib.hid ((Fr.refl (fun _ => False) w1).alloc (.cells #[.int .i64 (n : Int), .string ByteArray.empty, .float .f64 0] 58))
    have HGR := Lib.hid (show gs < w.heap.size ∧ w.heap.size < w1.heap.size from ⟨HL.out, by have := HF1.out.size; have := HR1.out.lt; omega⟩)
    have b0 := HB2.out.cell 0
    simp only [List.getElem?_toArray, List.getElem?_cons_zero] at b0
    clear hd hF1 hS1 HB0 HF0 HS hn
    by_cases hk : n < 1 ∨ 4 < n
    · have HK := Lib.hid hk
      rcases Nat.lt_or_ge n 1 with h1 | h1
      · have ta : decide ((n : Int) < 1) = true := decide_eq_true (by omega)
        clear hk h1
        go_wp2_with fail
        refine (must_no 12 (by decide) _).mono ?_
        rintro r w2 ⟨rfl, rfl⟩
        exact ⟨rfl, SrcEnd.err (by rw [HN.out, if_pos HK.out]) (HF1.out.trans (HF2.out.mono (fun _ _ h => h.elim))) rfl⟩
      · have ta : decide ((n : Int) < 1) = false := decide_eq_false (by omega)
        have tb : decide ((4 : Int) < (n : Int)) = true := decide_eq_true (by omega)
        clear hk h1
        go_wp2_with fail
        refine (must_no 12 (by decide) _).mono ?_
        rintro r w2 ⟨rfl, rfl⟩
        exact ⟨rfl, SrcEnd.err (by rw [HN.out, if_pos HK.out]) (HF1.out.trans (HF2.out.mono (fun _ _ h => h.elim))) rfl⟩
    · have ta : decide ((n : Int) < 1) = false := decide_eq_false (by omega)
      have tb : decide ((4 : Int) < (n : Int)) = false := decide_eq_false (by omega)
      have hd2 := HN.out
      rw [if_neg hk] at hd2
      have HN2 := Lib.hid hd2
      clear hk hd2
      go_wp2_with fail
      refine (src_key gs A1 ys c1 _ (HS1.out.fr HF2.out)).mono ?_
      rintro r w2 ⟨hF3, hm⟩
      cases hn : keyR ys with
      | error e =>
        rw [hn] at hm
        subst hm
        exact ⟨rfl, SrcEnd.err (by rw [HN2.out, hn]; rfl) ((HF1.out.trans (HF2.out.mono (fun _ _ h => h.elim))).trans hF3) rfl⟩
      | ok p =>
        obtain ⟨s, zs⟩ := p
        rw [hn] at hm
        obtain ⟨rfl, A2, c2, hS2⟩ := hm
        have hd := HN2.out
        rw [hn, thenR_ok rfl] at hd
        have HN3 := Lib.hid hd
        have hB3 := HB2.out.fr hF3 (fun e => by have := HGR.out; omega)
        have HF3 := Lib.hid ((HF1.out.trans (HF2.out.mono (fun _ _ h => h.elim))).trans hF3)
        have HR3 := Lib.hid ((HR1.out.fr HF2.out (fun h => h)).fr hF3 (fun e => by have := HGR.out; omega))
        have HS2 := Lib.hid hS2
        have hgz := hF3.size
        rw [World.size_alloc] at hgz
        obtain ⟨gc, hgc⟩ : ∃ g, g = w1.heap.size := ⟨_, rfl⟩
        rw [← hgc] at hB3 ⊢
        have HGC := Lib.hid (show gs < gc ∧ w.heap.size < gc ∧ gc < w2.heap.size from by have := HGR.out; omega)
        have ff := hB3.frozen
        have HB3 := Lib.hid hB3
        have hx := hB3.cell 1
        have hx0 := (hB3.set_ 1 (.string s)).cell 0
        simp only [List.getElem?_toArray, List.getElem?_cons_zero, List.getElem?_cons_succ] at hx hx0
        clear hd hF3 hS2 hB3 hgz hgc b0 ta tb hn HB2 HF2 HF1 HR1 HS1 HN HN2
        go_wp2_with fail
        have hS3 := HS2.out.far ((Fr.refl (fun k => gs < k) w2).setCell (p := ⟨gc, 1, none⟩) (.inl HGC.out.1) (.string s))
        have hB4 := HB3.out.set_ 1 (.string s)
        have hF4 := HF3.out.setCell (p := ⟨gc, 1, none⟩) (.inr (Nat.le_of_lt HGC.out.2.1)) (.string s)
        have hR4 := HR3.out.far (p := ⟨gc, 1, none⟩) (by have := HGC.out; show w.heap.size ≠ gc; omega) (.string s)
        have hgz := HGC.out.2.2
        rw [show w2.heap.size = (w2.setCell ⟨gc, 1, none⟩ (.string s)).heap.size from by simp [World.setCell]] at hgz
        generalize w2.setCell ⟨gc, 1, none⟩ (.string s) = w3 at hS3 hB4 hF4 hR4 hgz ⊢
        have HS3 := Lib.hid hS3
        have HB4 := Lib.hid (show Blk w3 gc 58 #[.int .i64 (n : Int), .string s, .float .f64 0] from hB4)
        have HF4 := Lib.hid hF4
        have HR4 := Lib.hid hR4
        have HGG := Lib.hid (And.intro HGC.out.1 (And.intro HGC.out.2.1 hgz))
        clear hS3 hB4 hF4 hR4 hgz hx hx0 ff HS2 HB3 HF3 HR3
        refine (cod_has n _).mono ?_
        rintro r w4 ⟨rfl, rfl⟩
        cases hh : hasV n with
        | true =>
          have hd := HN3.out
          rw [hh, if_pos rfl] at hd
          have HN4 := Lib.hid hd
          clear hd hh
          go_wp2_with fail
          refine (src_value gs A2 zs c2 _ HS3.out).mono ?_
          rintro r w4 ⟨hF5, hm⟩
          cases hn : valR zs with
          | error e =>
            rw [hn] at hm
            subst hm
            exact ⟨rfl, SrcEnd.err (by rw [HN4.out, hn]; rfl) (HF4.out.trans hF5) rfl⟩
          | ok p =>
            obtain ⟨v, us⟩ := p
            rw [hn] at hm
            obtain ⟨rfl, A3, c3, hS5⟩ := hm
            have hd := HN4.out
            rw [hn, thenR_ok rfl] at hd
            have HN5 := Lib.hid hd
            have hB5 := HB4.out.fr hF5 (fun e => by have := HGG.out; omega)
            have HR5 := Lib.hid (HR4.out.fr hF5 (fun e => by have := HGC.out; have := HL.out; omega))
            have HF5 := Lib.hid (HF4.out.trans hF5)
            have HS5 := Lib.hid hS5
            have HB5 := Lib.hid hB5
            have HB6 := Lib.hid (show Blk (w4.setCell ⟨gc, 2, none⟩ (.float .f64 v)) gc 58 #[.int .i64 (n : Int), .string s, .float .f64 v] from hB5.set_ 2 (.float .f64 v))
            have HR6 := Lib.hid (HR5.out.far (p := ⟨gc, 2, none⟩) (by have := HGC.out; show w.heap.size ≠ gc; omega) (.float .f64 v))
            have x2 := hB5.cell 2
            have ff := hB5.frozen
            have y0 := HB6.out.cell 0
            have y1 := HB6.out.cell 1
            have y2 := HB6.out.cell 2
            have z0 := HR6.out.cell 0
            have z1 := HR6.out.cell 1
            have z2 := HR6.out.cell 2
            have zf := HR6.out.frozen
            simp only [List.getElem?_toArray, List.getElem?_cons_zero, List.getElem?_cons_succ] at x2 y0 y1 y2 z0 z1 z2
            clear hd hF5 hS5 hB5 hn
            go_wp2_with fail
            refine bodyPost_ret (results_cell_row Try.results42 _ _ w.heap.size _ _ _ _ rfl (set3v HR6.out _ _ _) Try.underlying58 rfl (by kernel_rfl)) rfl ?_
            refine SrcEnd.ok HN5.out ((((HF5.out.setCell (p := ⟨gc, 2, none⟩) (.inr (Nat.le_of_lt HGC.out.2.1)) _).setCell (p := ⟨w.heap.size, 0, none⟩) (.inr (Nat.le_refl _)) _).setCell (p := ⟨w.heap.size, 1, none⟩) (.inr (Nat.le_refl _)) _).setCell (p := ⟨w.heap.size, 2, none⟩) (.inr (Nat.le_refl _)) _) rfl
              (HS5.out.far (((((Fr.refl (fun k => gs < k) w4).setCell (p := ⟨gc, 2, none⟩) (.inl HGC.out.1) _).setCell (p := ⟨w.heap.size, 0, none⟩) (.inl HL.out) _).setCell (p := ⟨w.heap.size, 1, none⟩) (.inl HL.out) _).setCell (p := ⟨w.heap.size, 2, none⟩) (.inl HL.out) _))
        | false =>
          have hd := HN3.out
          rw [hh, if_neg (by decide)] at hd
          have HN4 := Lib.hid hd
          have y0 := HB4.out.cell 0
          have y1 := HB4.out.cell 1
          have y2 := HB4.out.cell 2
          have z0 := HR4.out.cell 0
          have z1 := HR4.out.cell 1
          have z2 := HR4.out.cell 2
          have zf := HR4.out.frozen
          simp only [List.getElem?_toArray, List.getElem?_cons_zero, List.getElem?_cons_succ] at y0 y1 y2 z0 z1 z2
          clear hd hh
          go_wp2_with fail
          refine bodyPost_ret (results_cell_row Try.results42 _ _ w.heap.size _ _ _ _ rfl (set3v HR4.out _ _ _) Try.underlying58 rfl (by kernel_rfl)) rfl ?_
          refine SrcEnd.ok HN4.out (((HF4.out.setCell (p := ⟨w.heap.size, 0, none⟩) (.inr (Nat.le_refl _)) _).setCell (p := ⟨w.heap.size, 1, none⟩) (.inr (Nat.le_refl _)) _).setCell (p := ⟨w.heap.size, 2, none⟩) (.inr (Nat.le_refl _)) _) rfl
            (HS3.out.far ((((Fr.refl (fun k => gs < k) w3).setCell (p := ⟨w.heap.size, 0, none⟩) (.inl HL.out) _).setCell (p := ⟨w.heap.size, 1, none⟩) (.inl HL.out) _).setCell (p := ⟨w.heap.size, 2, none⟩) (.inl HL.out) _))
end Go.Proofs.Ytelfpnpplknlpaa
