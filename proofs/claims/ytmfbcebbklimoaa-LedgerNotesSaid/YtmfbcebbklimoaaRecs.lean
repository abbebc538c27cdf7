/- Records: their cells; which are the same; a copy of one. -/
import Derived.Test.YtmfbcebbklimoaaCmds
import Derived.Test.YtmfbcebbklimoaaCmdF
set_option linter.unusedVariables false
set_option linter.unusedSimpArgs false
namespace Go.Proofs.Ytmfbcebbklimoaa
open Go.RowKit
open Go.Proofs.YtmfbcebbklimoaaW.PrintWords

abbrev Rec := (Int × Int) × Int × List (Int × Int) × List Cmd
def recK : Kd Rec := Kd.pair idK (Kd.pair (Kd.int .i64) (Kd.pair (Kd.slice 29 idK) (Kd.slice 54 cmdK)))
abbrev recCells (r : Rec) (Ad Ab : Option Addr) (cd cb : Nat) : List Value := [.int .i64 r.1.1, .int .i64 r.1.2, .int .i64 r.2.1, .slice Ad r.2.2.1.length cd, .slice Ab r.2.2.2.length cb]
abbrev recV (r : Rec) (Ad Ab : Option Addr) (cd cb : Nat) : Value := .agg #[.int .i64 r.1.1, .int .i64 r.1.2, .int .i64 r.2.1, .slice Ad r.2.2.1.length cd, .slice Ab r.2.2.2.length cb]
/-- The record's lists are read there. -/
structure RecAt (w : World) (r : Rec) (Ad Ab : Option Addr) (cd cb : Nat) : Prop where
  ld : r.2.2.1.length ≤ cd
  lb : r.2.2.2.length ≤ cb
  deps : idK.C w Ad r.2.2.1.length r.2.2.1
  batch : cmdK.C w Ab r.2.2.2.length r.2.2.2
theorem RecAt.fr {w w' : World} {r : Rec} {Ad Ab : Option Addr} {cd cb : Nat} (h : RecAt w r Ad Ab cd cb) (hF : Fr (fun _ => False) w w') : RecAt w' r Ad Ab cd cb :=
  ⟨h.ld, h.lb, Kd.C_below h.deps (hF.below (fun _ _ h => h)), Kd.C_below h.batch (hF.below (fun _ _ h => h))⟩
theorem recK_K {w : World} {r : Rec} {c : List Value} (h : recK.K w r c) : ∃ Ad Ab cd cb, c = recCells r Ad Ab cd cb ∧ RecAt w r Ad Ab cd cb := by
  obtain ⟨c0, c1, rfl, h0, c2, c3, rfl, h1, c4, c5, rfl, ⟨Ad, cd, rfl, hd, hD⟩, ⟨Ab, cb, rfl, hb, hB⟩⟩ := h
  rw [idK_K h0, show c2 = [.int .i64 r.2.1] from h1]
  exact ⟨Ad, Ab, cd, cb, rfl, hd, hb, hD, hB⟩
theorem recK_M {w : World} {base : Nat} {ok : Nat → Prop} {r : Rec} {Ad Ab : Option Addr} {cd cb : Nat} (hD : idK.R 29 w base ok (.slice Ad r.2.2.1.length cd) r.2.2.1) (hB : cmdK.R 54 w base ok (.slice Ab r.2.2.2.length cb) r.2.2.2) :
    recK.M w base ok r (recCells r Ad Ab cd cb) :=
  ⟨idCells r.1, [.int .i64 r.2.1, .slice Ad r.2.2.1.length cd, .slice Ab r.2.2.2.length cb], rfl, idK_M _ _ _ _, [.int .i64 r.2.1], [.slice Ad r.2.2.1.length cd, .slice Ab r.2.2.2.length cb], rfl, rfl, [.slice Ad r.2.2.1.length cd], [.slice Ab r.2.2.2.length cb], rfl, ⟨_, rfl, hD⟩, ⟨_, rfl, hB⟩⟩
def rcx (L : List Rec) (i : Nat) : Rec := L.getD i ((0, 0), 0, [], [])
theorem rcx_eq {L : List Rec} {i : Nat} (h : i < L.length) : rcx L i = L[i] := by unfold rcx; rw [List.getD_eq_getElem?_getD, List.getElem?_eq_getElem h]; rfl
theorem rcx_get {L : List Rec} {i : Nat} (h : i < L.length) : L[i]? = some (rcx L i) := by rw [rcx_eq h, List.getElem?_eq_getElem h]
theorem rcx_mem {L : List Rec} {i : Nat} (h : i < L.length) : rcx L i ∈ L := by rw [rcx_eq h]; exact List.getElem_mem h
theorem recs_at {w : World} {A : Option Addr} {n : Nat} {L : List Rec} (h : recK.C w A n L) {i : Nat} (hi : i < n) :
    ∃ b off Ad Ab cd cb, A = some ⟨b, off, none⟩ ∧ RecAt w (rcx L i) Ad Ab cd cb ∧ w.cell? ⟨b, off + i * 5, none⟩ = some (.int .i64 (rcx L i).1.1) ∧ w.cell? ⟨b, off + i * 5 + 1, none⟩ = some (.int .i64 (rcx L i).1.2) ∧
      w.cell? ⟨b, off + i * 5 + 2, none⟩ = some (.int .i64 (rcx L i).2.1) ∧ w.cell? ⟨b, off + i * 5 + 3, none⟩ = some (.slice Ad (rcx L i).2.2.1.length cd) ∧ w.cell? ⟨b, off + i * 5 + 4, none⟩ = some (.slice Ab (rcx L i).2.2.2.length cb) := by
  obtain ⟨b, off, c, hi', hA, hc, hk, hcell⟩ := C_at h (by decide) hi
  rw [← rcx_eq hi'] at hk
  obtain ⟨Ad, Ab, cd, cb, rfl, hr⟩ := recK_K hk
  have hs : recK.sz = 5 := rfl
  rw [hs] at hcell
  exact ⟨b, off, Ad, Ab, cd, cb, hA, hr, hcell 0 _ rfl, hcell 1 _ rfl, hcell 2 _ rfl, hcell 3 _ rfl, hcell 4 _ rfl⟩
def RecOk (r : Rec) : Prop := IdOk r.1 ∧ (Lit.int .i64 r.2.1).wf = true ∧ (∀ x ∈ r.2.2.1, IdOk x) ∧ ∀ x ∈ r.2.2.2, CmdOk x
def recS (r r' : Rec) : Prop := r.1 = r'.1 ∧ r.2.1 = r'.2.1 ∧ r.2.2.1 = r'.2.2.1 ∧ cmdsS r.2.2.2 r'.2.2.2
theorem recS_refl (r : Rec) : recS r r := ⟨rfl, rfl, rfl, cmdsS_refl _⟩
set_option maxRecDepth 100000 in
set_option maxHeartbeats 2000000 in
theorem ref_rec (r r' : Rec) (Ad Ab Ad' Ab' : Option Addr) (cd cb cd' cb' : Nat) (w : World) (h : RecAt w r Ad Ab cd cb) (h' : RecAt w r' Ad' Ab' cd' cb')
    (s1 : r.2.2.1.length ≤ 9223372036854775807) (s2 : r.2.2.2.length ≤ 9223372036854775807) (s1' : r'.2.2.1.length ≤ 9223372036854775807) (s2' : r'.2.2.2.length ≤ 9223372036854775807) (hL : ∀ x ∈ r.2.2.2, CmdOk x) (hL' : ∀ x ∈ r'.2.2.2, CmdOk x) :
    Calls Try.prog 12 #[recV r Ad Ab cd cb, recV r' Ad' Ab' cd' cb'] w fun e w' => e = .returned (.bool (cdec (recS r r'))) ∧ Fr (fun _ => False) w w' := by
  obtain ⟨⟨i1, i2⟩, q, D, B⟩ := r
  obtain ⟨⟨i1', i2'⟩, q', D', B'⟩ := r'
  have HH := Lib.hid h
  have HH' := Lib.hid h'
  have HO := Lib.hid hL
  have HO' := Lib.hid hL'
  have hF : Fr (fun _ => False) w _ := ((Fr.refl (fun _ => False) w).alloc (.cells #[.int .i64 i1, .int .i64 i2, .int .i64 q, .slice Ad D.length cd, .slice Ab B.length cb] 33)).alloc (.cells #[.int .i64 i1', .int .i64 i2', .int .i64 q', .slice Ad' D'.length cd', .slice Ab' B'.length cb'] 33)
  have HF := Lib.hid hF
  have he := fun w => eqId i1 i2 i1' i2' w
  clear h h' hL hL' hF
  simp only at s1 s2 s1' s2'
  by_cases h1 : ((i1, i2) : Int × Int) = (i1', i2')
  · rw [decide_eq_true h1] at he
    by_cases h2 : q = q'
    · have t2 : (q == q') = true := by simp [h2]
      have X := Lib.hid h1
      have Y := Lib.hid h2
      clear h1 h2
      go_enter Try.func12, Try.ntmps12
      go_wp2_with fail
      refine (ids_same Ad Ad' _ cd _ cd' D D' _ (HH.out.fr HF.out).deps (HH'.out.fr HF.out).deps (Nat.le_trans s1 (by omega)) (Nat.le_trans s1' (by omega))).mono ?_
      rintro e w1 ⟨rfl, hF1⟩
      by_cases h3 : D = D'
      · rw [decide_eq_true h3]
        have Z := Lib.hid h3
        clear h3
        have x3 := (((Blk.new w 33 #[.int .i64 i1, .int .i64 i2, .int .i64 q, .slice Ad D.length cd, .slice Ab B.length cb]).alloc (.cells #[.int .i64 i1', .int .i64 i2', .int .i64 q', .slice Ad' D'.length cd', .slice Ab' B'.length cb'] 33)).fr hF1 (fun h => h)).cell 4
        have y3 := ((Blk.new (w.alloc (.cells #[.int .i64 i1, .int .i64 i2, .int .i64 q, .slice Ad D.length cd, .slice Ab B.length cb] 33)) 33 #[.int .i64 i1', .int .i64 i2', .int .i64 q', .slice Ad' D'.length cd', .slice Ab' B'.length cb']).fr hF1 (fun h => h)).cell 4
        rw [World.size_alloc] at y3
        simp only [List.getElem?_toArray, List.getElem?_cons_zero, List.getElem?_cons_succ] at x3 y3
        replace HF := Lib.hid (HF.out.trans hF1)
        clear hF1
        go_wp2_with fail
        refine (ref_cmds Ab Ab' _ cb _ cb' B B' _ (HH.out.fr HF.out).batch (HH'.out.fr HF.out).batch s2 s2' HO.out HO'.out).mono ?_
        rintro e w2 ⟨rfl, hF1⟩
        have hd : cdec (recS ((i1, i2), q, D, B) ((i1', i2'), q', D', B')) = cdec (cmdsS B B') := by
          by_cases h4 : cmdsS B B'
          · rw [cdec_true h4, cdec_true ⟨X.out, Y.out, Z.out, h4⟩]
          · rw [cdec_false h4, cdec_false fun h => h4 h.2.2.2]
        have HD := Lib.hid hd
        replace HF := Lib.hid (HF.out.trans hF1)
        clear hF1 hd x3 y3
        go_wp2_with fail
        go_ret
        exact ⟨ret_bool HD.out.symm, HF.out⟩
      · rw [decide_eq_false h3]
        have HD := Lib.hid (cdec_false (show ¬ recS ((i1, i2), q, D, B) ((i1', i2'), q', D', B') from fun h => h3 h.2.2.1))
        replace HF := Lib.hid (HF.out.trans hF1)
        clear h3 hF1
        go_wp2_with fail
        go_ret
        exact ⟨ret_bool HD.out.symm, HF.out⟩
    · have t2 : (q == q') = false := by simp [h2]
      rw [cdec_false (show ¬ recS ((i1, i2), q, D, B) ((i1', i2'), q', D', B') from fun h => h2 h.2.1)]
      clear h1 h2
      go_enter Try.func12, Try.ntmps12
      go_wp2_with fail
      go_ret
      exact ⟨rfl, HF.out⟩
  · rw [decide_eq_false h1] at he
    rw [cdec_false (show ¬ recS ((i1, i2), q, D, B) ((i1', i2'), q', D', B') from fun h => h1 h.1)]
    clear h1
    go_enter Try.func12, Try.ntmps12
    go_wp2_with fail
    go_ret
    exact ⟨rfl, HF.out⟩
end Go.Proofs.Ytmfbcebbklimoaa
