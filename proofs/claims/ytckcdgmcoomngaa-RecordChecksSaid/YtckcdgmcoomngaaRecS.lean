/- Records: the same, which stands ahead; by the program and by the reference. -/
import Derived.Test.YtckcdgmcoomngaaRecQ
set_option linter.unusedVariables false
set_option linter.unusedSimpArgs false
namespace Go.Proofs.Ytckcdgmcoomngaa
open Go.RowKit
open Go.Proofs.YtckcdgmcoomngaaW.PrintWords

set_option maxHeartbeats 1000000 in
theorem ids_equal (A A' : Option Addr) (n c n' c' : Nat) (L L' : List (Int × Int)) (w : World) (h : idK.C w A n L) (h' : idK.C w A' n' L') (hn : n ≤ 9223372036854775807) (hn' : n' ≤ 9223372036854775807) :
    Calls Try.prog 38 #[.slice A n c, .slice A' n' c'] w fun r w' => r = .returned (.bool (decide (L = L'))) ∧ Fr (fun _ => False) w w' := by
  have hl : L.length = n := h.1
  have hl' : L'.length = n' := h'.1
  have HL := Lib.hid hl
  have HL' := Lib.hid hl'
  have HC := Lib.hid h
  have HC' := Lib.hid h'
  clear hl hl' h h'
  by_cases hnn : n = n'
  · subst hnn
    go_enter Try.func38, Try.ntmps38
    go_wp2
    go_loopw [13] (fun i wr => ∃ k : Nat, k ≤ n ∧ i = .int .i64 k ∧ L.take k = L'.take k ∧ Fr (fun _ => False) w wr) (fun i _ => n - (intOf i).toNat)
    case atStart => exact ⟨0, Nat.zero_le _, rfl, by simp, Fr.refl _ _⟩
    case round =>
      obtain ⟨k, hk, rfl, hno, hG⟩ := hrel
      replace hno := Lib.hid hno
      replace hG := Lib.hid hG
      rcases Nat.lt_or_ge k n with hlt | hge
      · obtain ⟨b, off, rfl, h0, h1⟩ := ids_at (Kd.C_below HC.out (hG.out.below (fun _ _ h => h))) hlt
        obtain ⟨b', off', rfl, h0', h1'⟩ := ids_at (Kd.C_below HC'.out (hG.out.below (fun _ _ h => h))) hlt
        have he := fun w => neqId (ida L k).1 (ida L k).2 (ida L' k).1 (ida L' k).2 w
        have g1 := Lib.hid (ida_get (L := L) (i := k) (by rw [HL.out]; exact hlt))
        have g2 := Lib.hid (ida_get (L := L') (i := k) (by rw [HL'.out]; exact hlt))
        by_cases hq : ida L k = ida L' k
        · have hqd : decide (((ida L k).1, (ida L k).2) = ((ida L' k).1, (ida L' k).2)) = true := decide_eq_true hq
          simp only [hqd, Bool.not_true] at he
          replace hq := Lib.hid hq
          clear hqd
          go_wp2
          go_quiet (fail)
          go_wp2
          go_roundw
          case rel => exact ⟨k + 1, by omega, by go_num, by rw [List.take_add_one, List.take_add_one, g1.out, g2.out, hno.out, hq.out], hG.out.drewN _⟩
          case measure => simp [intOf]; omega
        · have hqd : decide (((ida L k).1, (ida L k).2) = ((ida L' k).1, (ida L' k).2)) = false := decide_eq_false hq
          simp only [hqd, Bool.not_false] at he
          replace hq := Lib.hid hq
          clear hqd
          go_wp2
          go_quiet (fail)
          go_wp2
          go_ret
          refine ⟨ret_bool (decide_eq_false fun e => hq.out ?_).symm, hG.out.drewN _⟩
          rw [e]
      · go_wp2
        go_ret
        refine ⟨ret_bool (decide_eq_true ?_).symm, hG.out⟩
        have := hno.out
        rwa [List.take_of_length_le (by rw [HL.out]; exact hge), List.take_of_length_le (by rw [HL'.out]; exact hge)] at this
  · have t : ((n : Int) == (n' : Int)) = false := by simp; omega
    have t2 : ((n : Int) != (n' : Int)) = true := by simp; omega
    go_enter Try.func38, Try.ntmps38
    go_wp2
    go_ret
    exact ⟨ret_bool (decide_eq_false fun e => hnn (by rw [← HL.out, ← HL'.out, e])).symm, Fr.refl _ _⟩
set_option maxRecDepth 100000 in
set_option maxHeartbeats 2000000 in
theorem rec_same (r r' : Rec) (Ad Ab Ad' Ab' : Option Addr) (cd cb cd' cb' : Nat) (w : World) (h : RecAt w r Ad Ab cd cb) (h' : RecAt w r' Ad' Ab' cd' cb')
    (s1 : r.2.2.1.length ≤ 9223372036854775807) (s2 : r.2.2.2.length ≤ 9223372036854775807) (s1' : r'.2.2.1.length ≤ 9223372036854775807) (s2' : r'.2.2.2.length ≤ 9223372036854775807) (hL : ∀ x ∈ r.2.2.2, CmdOk x) (hL' : ∀ x ∈ r'.2.2.2, CmdOk x) :
    Calls Try.prog 13 #[recV r Ad Ab cd cb, recV r' Ad' Ab' cd' cb'] w fun e w' => e = .returned (.bool (cdec (recS r r'))) ∧ Fr (fun _ => False) w w' := by
  obtain ⟨⟨i1, i2⟩, q, D, B⟩ := r
  obtain ⟨⟨i1', i2'⟩, q', D', B'⟩ := r'
  have HH := Lib.hid h
  have HH' := Lib.hid h'
  have HO := Lib.hid hL
  have HO' := Lib.hid hL'
  have hF : Fr (fun _ => False) w _ := ((Fr.refl (fun _ => False) w).alloc (.cells #[.int .i64 i1, .int .i64 i2, .int .i64 q, .slice Ad D.length cd, .slice Ab B.length cb] 27)).alloc (.cells #[.int .i64 i1', .int .i64 i2', .int .i64 q', .slice Ad' D'.length cd', .slice Ab' B'.length cb'] 27)
  have HF := Lib.hid hF
  have he := fun w => eqId i1 i2 i1' i2' w
  clear h h' hL hL' hF
  simp only at s1 s2 s1' s2'
  by_cases h1 : ((i1, i2) : Int × Int) = (i1', i2')
  · rw [decide_eq_true h1] at he
    by_cases h2 : q = q'
    · have t2 : (q == q') = true := by simp [h2]
      have X := Lib.hid h1
      have Y := Lib.hid h2
      clear h1 h2
      go_enter Try.func13, Try.ntmps13
      go_wp2_with fail
      refine (ids_equal Ad Ad' _ cd _ cd' D D' _ (HH.out.fr HF.out).deps (HH'.out.fr HF.out).deps (Nat.le_trans s1 (by omega)) (Nat.le_trans s1' (by omega))).mono ?_
      rintro e w1 ⟨rfl, hF1⟩
      by_cases h3 : D = D'
      · rw [decide_eq_true h3]
        have Z := Lib.hid h3
        clear h3
        have x3 := (((Blk.new w 27 #[.int .i64 i1, .int .i64 i2, .int .i64 q, .slice Ad D.length cd, .slice Ab B.length cb]).alloc (.cells #[.int .i64 i1', .int .i64 i2', .int .i64 q', .slice Ad' D'.length cd', .slice Ab' B'.length cb'] 27)).fr hF1 (fun h => h)).cell 4
        have y3 := ((Blk.new (w.alloc (.cells #[.int .i64 i1, .int .i64 i2, .int .i64 q, .slice Ad D.length cd, .slice Ab B.length cb] 27)) 27 #[.int .i64 i1', .int .i64 i2', .int .i64 q', .slice Ad' D'.length cd', .slice Ab' B'.length cb']).fr hF1 (fun h => h)).cell 4
        rw [World.size_alloc] at y3
        simp only [List.getElem?_toArray, List.getElem?_cons_zero, List.getElem?_cons_succ] at x3 y3
        replace HF := Lib.hid (HF.out.trans hF1)
        clear hF1
        go_wp2_with fail
        refine (bat_same Ab Ab' _ cb _ cb' B B' _ (HH.out.fr HF.out).batch (HH'.out.fr HF.out).batch s2 s2' HO.out HO'.out).mono ?_
        rintro e w2 ⟨rfl, hF1⟩
        have hd : cdec (recS ((i1, i2), q, D, B) ((i1', i2'), q', D', B')) = cdec (cmdsS B B') := by
          by_cases h4 : cmdsS B B'
          · rw [cdec_true h4, cdec_true ⟨X.out, Y.out, Z.out, h4⟩]
          · rw [cdec_false h4, cdec_false fun h => h4 h.2.2.2]
        have HD := Lib.hid hd
        replace HF := Lib.hid (HF.out.trans hF1)
        clear hF1 hd x3 y3
        go_wp2_with fail
        go_ret
        exact ⟨ret_bool HD.out.symm, HF.out⟩
      · rw [decide_eq_false h3]
        have HD := Lib.hid (cdec_false (show ¬ recS ((i1, i2), q, D, B) ((i1', i2'), q', D', B') from fun h => h3 h.2.2.1))
        replace HF := Lib.hid (HF.out.trans hF1)
        clear h3 hF1
        go_wp2_with fail
        go_ret
        exact ⟨ret_bool HD.out.symm, HF.out⟩
    · have t2 : (q == q') = false := by simp [h2]
      rw [cdec_false (show ¬ recS ((i1, i2), q, D, B) ((i1', i2'), q', D', B') from fun h => h2 h.2.1)]
      clear h1 h2
      go_enter Try.func13, Try.ntmps13
      go_wp2_with fail
      go_ret
      exact ⟨rfl, HF.out⟩
  · rw [decide_eq_false h1] at he
    rw [cdec_false (show ¬ recS ((i1, i2), q, D, B) ((i1', i2'), q', D', B') from fun h => h1 h.1)]
    clear h1
    go_enter Try.func13, Try.ntmps13
    go_wp2_with fail
    go_ret
    exact ⟨rfl, HF.out⟩
def recLess (r r' : Rec) : Bool := if r.2.1 = r'.2.1 then idLess r.1 r'.1 else decide (r.2.1 < r'.2.1)
theorem idCmp_neg (a b : Int × Int) : decide (idCmp a b < 0) = idLess a b := by
  unfold idCmp
  by_cases h : a = b
  · subst h
    rw [if_pos rfl, show idLess a a = false from by unfold idLess; rw [if_pos rfl]; exact decide_eq_false (by omega)]
    rfl
  · rw [if_neg h]
    cases idLess a b <;> rfl
set_option maxHeartbeats 1000000 in
theorem rec_less (r r' : Rec) (Ad Ab Ad' Ab' : Option Addr) (cd cb cd' cb' : Nat) (w : World) :
    Calls Try.prog 14 #[recV r Ad Ab cd cb, recV r' Ad' Ab' cd' cb'] w fun e w' => e = .returned (.bool (recLess r r')) ∧ Fr (fun _ => False) w w' := by
  obtain ⟨⟨i1, i2⟩, q, D, B⟩ := r
  obtain ⟨⟨i1', i2'⟩, q', D', B'⟩ := r'
  have hF := ((Fr.refl (fun _ => False) w).alloc (.cells #[.int .i64 i1, .int .i64 i2, .int .i64 q, .slice Ad D.length cd, .slice Ab B.length cb] 27)).alloc (.cells #[.int .i64 i1', .int .i64 i2', .int .i64 q', .slice Ad' D'.length cd', .slice Ab' B'.length cb'] 27)
  by_cases h : q = q'
  · have t1 : (q != q') = false := by simp [h]
    rw [show recLess ((i1, i2), q, D, B) ((i1', i2'), q', D', B') = idLess (i1, i2) (i1', i2') from if_pos h]
    clear h
    go_enter Try.func14, Try.ntmps14
    go_wp2_with fail
    refine (id_cmp i1 i2 i1' i2' _).mono ?_
    rintro r w1 ⟨rfl, hF1⟩
    have tl := idCmp_neg (i1, i2) (i1', i2')
    go_wp2_with fail
    go_ret
    exact ⟨rfl, hF.trans hF1⟩
  · have t1 : (q != q') = true := by simp [h]
    rw [show recLess ((i1, i2), q, D, B) ((i1', i2'), q', D', B') = decide (q < q') from if_neg h]
    clear h
    go_enter Try.func14, Try.ntmps14
    go_wp2_with fail
    go_ret
    exact ⟨rfl, hF⟩
set_option maxHeartbeats 1000000 in
theorem ref_less (r r' : Rec) (Ad Ab Ad' Ab' : Option Addr) (cd cb cd' cb' : Nat) (w : World) :
    Calls Try.prog 15 #[recV r Ad Ab cd cb, recV r' Ad' Ab' cd' cb'] w fun e w' => e = .returned (.bool (recLess r r')) ∧ Fr (fun _ => False) w w' := by
  obtain ⟨⟨i1, i2⟩, q, D, B⟩ := r
  obtain ⟨⟨i1', i2'⟩, q', D', B'⟩ := r'
  have hF := ((Fr.refl (fun _ => False) w).alloc (.cells #[.int .i64 i1, .int .i64 i2, .int .i64 q, .slice Ad D.length cd, .slice Ab B.length cb] 27)).alloc (.cells #[.int .i64 i1', .int .i64 i2', .int .i64 q', .slice Ad' D'.length cd', .slice Ab' B'.length cb'] 27)
  by_cases h : q = q'
  · have t1 : (q != q') = false := by simp [h]
    rw [show recLess ((i1, i2), q, D, B) ((i1', i2'), q', D', B') = idLess (i1, i2) (i1', i2') from if_pos h]
    clear h
    go_enter Try.func15, Try.ntmps15
    go_wp2_with fail
    refine (ref_id_less i1 i2 i1' i2' _).mono ?_
    rintro r w1 ⟨rfl, hF1⟩
    go_wp2_with fail
    go_ret
    exact ⟨rfl, hF.trans hF1⟩
  · have t1 : (q != q') = true := by simp [h]
    rw [show recLess ((i1, i2), q, D, B) ((i1', i2'), q', D', B') = decide (q < q') from if_neg h]
    clear h
    go_enter Try.func15, Try.ntmps15
    go_wp2_with fail
    go_ret
    exact ⟨rfl, hF⟩
end Go.Proofs.Ytckcdgmcoomngaa
