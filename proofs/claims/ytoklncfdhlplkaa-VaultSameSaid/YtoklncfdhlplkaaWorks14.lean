/- Layer 14's works; the law FoldPrefix. -/
import Derived.Test.YtoklncfdhlplkaaFoldO
set_option linter.unusedVariables false
set_option linter.unusedSimpArgs false
namespace Go.Proofs.Ytoklncfdhlplkaa
open Go.RowKit
open Go.Proofs.YtoklncfdhlplkaaW.PrintWords

abbrev kA : ByteArray := ⟨#[97]⟩
abbrev one64 : Nat := 4607182418800017408
abbrev two64 : Nat := 4611686018427387904
abbrev c14a : Cmd := (2, kA, one64)
abbrev c14b : Cmd := (4, kA, one64)
abbrev B14 : List Cmd := [c14a, c14b]
abbrev L14 : List Item := [((1, 1), B14)]
theorem keyA : keyOk kA := by
  refine ⟨fun i h => ?_, by decide, by decide⟩
  have : i = 0 := by have : kA.size = 1 := rfl; omega
  subst this
  exact show charK 97 from .inl ⟨by decide, by decide⟩
theorem ok14a : cmdOk c14a := ⟨.inr (.inl rfl), keyA, fun h => by rcases h with h | h <;> cases h⟩
theorem ok14b : cmdOk c14b := ⟨.inr (.inr (.inr rfl)), keyA, fun h => by rcases h with h | h <;> cases h⟩
theorem bat14 : errBat B14 = 0 := errBat_ok (by decide) fun i hi => by
  have : i = 0 ∨ i = 1 := by have : B14.length = 2 := rfl; omega
  rcases this with rfl | rfl
  · exact ok14a
  · exact ok14b
theorem good14 : ItemsGood L14 := fun it hit x hx => by
  rw [List.mem_singleton.1 hit] at hx
  rcases List.mem_cons.1 hx with rfl | hx
  · exact ⟨by decide, by decide⟩
  · rw [List.mem_singleton.1 hx]; exact ⟨by decide, by decide⟩
theorem run14 : runI L14 = ([((1, 1), 0, c14a), ((1, 1), 1, c14b)], toldN [] (1, 1) B14 2) := by
  show stepI ([], []) ((1, 1), B14) = _
  unfold stepI
  rw [if_pos bat14]
  rfl
theorem sum14 : sumC (canonP one64) one64 = two64 := by decide +kernel
theorem can14 : canonP one64 = one64 := by decide +kernel
theorem cell14 : cellOf (runI L14).1 kA = (true, two64) := by
  rw [run14]
  show cellStep kA (cellStep kA (false, 0) ((1, 1), 0, c14a)) ((1, 1), 1, c14b) = _
  unfold cellStep
  rw [cdec_true rfl]
  show (doC (doC (false, 0) c14a).1 c14b).1 = _
  rw [doC_put ok14a rfl, doC_add ok14b rfl]
  exact congrArg (Prod.mk true) sum14
theorem log14 : logOf (runI L14).1 kA = [((1, 1), 0), ((1, 1), 1)] := by
  rw [run14]
  have h1 : logOf ([] ++ [((1, 1), 0, c14a)]) kA = logOf [] kA ++ [((1, 1), 0)] := logOf_yes ⟨rfl, ok14a, by decide⟩
  have h2 : logOf (([] ++ [((1, 1), 0, c14a)]) ++ [((1, 1), 1, c14b)]) kA = logOf ([] ++ [((1, 1), 0, c14a)]) kA ++ [((1, 1), 1)] := logOf_yes ⟨rfl, ok14b, by decide⟩
  rw [h1] at h2
  exact h2
theorem only14 : foldC (selI kA [((1, 1), 0)] L14 L14.length) = (true, one64) := by
  have h1 : selN kA [((1, 1), 0)] (1, 1) B14 2 = [c14a] := by
    show ([] ++ (bif cdec (selP kA [((1, 1), 0)] (1, 1) B14 0) then [c14a] else [])) ++ (bif cdec (selP kA [((1, 1), 0)] (1, 1) B14 1) then [c14b] else []) = _
    rw [cdec_true (show selP kA [((1, 1), 0)] (1, 1) B14 0 from ⟨rfl, by decide⟩), cdec_false (show ¬ selP kA [((1, 1), 0)] (1, 1) B14 1 from fun h => absurd h.2 (by decide))]
    rfl
  show foldC ([] ++ (if errBat B14 = 0 then selN kA [((1, 1), 0)] (1, 1) B14 2 else [])) = _
  rw [if_pos bat14, h1]
  show (doC (false, 0) c14a).1 = _
  rw [doC_put ok14a rfl]
  exact congrArg (Prod.mk true) can14
theorem feq_two (w : World) : (binOp .eql 38 (.float .f64 two64) (.float .f64 two64)).run Try.prog w = .ok (.bool true) w := by kernel_rfl
theorem feq_one (w : World) : (binOp .eql 38 (.float .f64 one64) (.float .f64 one64)).run Try.prog w = .ok (.bool true) w := by kernel_rfl
theorem field_two (w : World) : (Instr.field 40 (cellV (true, two64)) 1).run Try.prog w = .ok (.float .f64 two64) w := by kernel_rfl
theorem field_one (w : World) : (Instr.field 40 (cellV (true, one64)) 1).run Try.prog w = .ok (.float .f64 one64) w := by kernel_rfl
set_option maxRecDepth 100000 in
set_option maxHeartbeats 4000000 in
theorem works14 (w : World) : Calls Try.prog 16 #[] w fun r w' => r = .returned (.bool true) ∧ Fr (fun _ => False) w w' := by
  have hb1 := (Blk.new w 60 #[.int .i64 2, .string kA, .float .f64 one64, .int .i64 4, .string kA, .float .f64 one64]).alloc (.cells #[.int .i64 1, .int .i64 1, .slice (some ⟨w.heap.size, 0, none⟩) 2 2] 80)
  have hb2 := Blk.new (w.alloc (.cells #[.int .i64 2, .string kA, .float .f64 one64, .int .i64 4, .string kA, .float .f64 one64] 60)) 80 #[.int .i64 1, .int .i64 1, .slice (some ⟨w.heap.size, 0, none⟩) 2 2]
  have hF := ((Fr.refl (fun _ => False) w).alloc (.cells #[.int .i64 2, .string kA, .float .f64 one64, .int .i64 4, .string kA, .float .f64 one64] 60)).alloc (.cells #[.int .i64 1, .int .i64 1, .slice (some ⟨w.heap.size, 0, none⟩) 2 2] 80)
  rw [World.size_alloc] at hb2
  go_enter Try.func16, Try.ntmps16
  go_wp2_with fail
  generalize (w.alloc (.cells #[.int .i64 2, .string kA, .float .f64 one64, .int .i64 4, .string kA, .float .f64 one64] 60)).alloc (.cells #[.int .i64 1, .int .i64 1, .slice (some ⟨w.heap.size, 0, none⟩) 2 2] 80) = w1 at hb1 hb2 hF ⊢
  generalize e2 : w.heap.size + 1 = g2 at hb2 ⊢
  generalize e1 : w.heap.size = g1 at hb1 hb2
  clear e1 e2
  have hCb := cmdFlat.blk_C (L := B14) hb1 (by decide)
  have hC : itemK.C w1 (some ⟨g2, 0, none⟩) 1 L14 := by
    refine ⟨rfl, by decide, fun _ => ⟨_, rfl, fun j p hj => ?_⟩⟩
    have hj0 : j = 0 := by
      have := (List.getElem?_eq_some_iff.1 hj).1
      simp at this
      exact this
    subst hj0
    cases hj
    refine ⟨[.int .i64 1, .int .i64 1, .slice (some ⟨g1, 0, none⟩) 2 2], rfl, ⟨[.int .i64 1, .int .i64 1], [.slice (some ⟨g1, 0, none⟩) 2 2], rfl, idK.K_of_M (idK_M w1 0 (fun _ => True) (1, 1)), some ⟨g1, 0, none⟩, 2, rfl, by decide, hCb⟩, fun i u hu => ?_⟩
    rw [add_plain, hb2.cell]
    simpa using hu
  have HC := Lib.hid hC
  have HF := Lib.hid hF
  clear hCb hC hF hb1 hb2
  refine (fold_writers (some ⟨g2, 0, none⟩) 1 1 L14 kA w1 HC.out good14 (by decide) (by decide)).mono ?_
  rintro r w2 ⟨v, rfl, hR, hF2⟩
  obtain ⟨Aw, cw, rfl⟩ := Kd.R_slice hR
  rw [log14] at hR ⊢
  obtain ⟨_, hlc, hCw⟩ := Kd.R_reads' hR
  have HCW := Lib.hid (show wrK.C w2 Aw 2 [((1, 1), 0), ((1, 1), 1)] from hCw)
  have HF2 := Lib.hid hF2
  clear hR hCw hF2
  rw [show ([((1, 1), 0), ((1, 1), 1)] : List Wr).length = 2 from rfl] at hlc ⊢
  have hf2 := feq_two
  have hf1 := feq_one
  have hd2 := field_two
  have hd1 := field_one
  have hlen : (runI L14).2.length = 2 := by rw [run14, toldN_len]
  have HLEN := Lib.hid hlen
  clear hlen
  go_wp2_with fail
  refine (fold_cell (some ⟨g2, 0, none⟩) 1 1 L14 kA w2 (Kd.C_below HC.out (HF2.out.below (fun _ _ h => h))) good14 (by decide) (by decide)).mono ?_
  rintro r w3 ⟨rfl, hF3⟩
  rw [cell14]
  have HF3 := Lib.hid hF3
  clear hF3
  go_wp2_with fail
  have hC1 : wrK.C w3 Aw 1 [((1, 1), 0)] := Kd.C_take (m := 1) (Kd.C_below HCW.out (HF3.out.below (fun _ _ h => h))) (by decide)
  refine (fold_only (some ⟨g2, 0, none⟩) Aw 1 1 1 cw L14 [((1, 1), 0)] kA w3 (Kd.C_below HC.out ((HF2.out.trans HF3.out).below (fun _ _ h => h))) hC1 good14 (by decide) (by decide)).mono ?_
  rintro r w4 ⟨rfl, hF4⟩
  rw [only14]
  have HF4 := Lib.hid hF4
  have HC1 := Lib.hid (Kd.C_below hC1 (hF4.below (fun _ _ h => h)))
  have HC2 := Lib.hid (Kd.C_below HCW.out ((HF3.out.trans hF4).below (fun _ _ h => h)))
  clear hF4 hC1
  go_wp2_with fail
  refine (fold_prefix Aw Aw 1 cw 2 cw _ _ w4 HC1.out HC2.out (by decide) (by decide)).mono ?_
  rintro r w5 ⟨rfl, hF5⟩
  rw [show (decide (1 ≤ 2) && decide (([((1, 1), 0)] : List Wr) = ([((1, 1), 0), ((1, 1), 1)] : List Wr).take 1)) = true from by decide]
  have HF5 := Lib.hid hF5
  clear hF5
  go_wp2_with fail
  refine (fold_prefix Aw Aw 2 cw 1 cw _ _ w5 (Kd.C_below HC2.out (HF5.out.below (fun _ _ h => h))) (Kd.C_below HC1.out (HF5.out.below (fun _ _ h => h))) (by decide) (by decide)).mono ?_
  rintro r w6 ⟨rfl, hF6⟩
  rw [show (decide (2 ≤ 1) && decide (([((1, 1), 0), ((1, 1), 1)] : List Wr) = ([((1, 1), 0)] : List Wr).take 2)) = false from by decide]
  have HF6 := Lib.hid hF6
  clear hF6
  go_wp2_with fail
  have hFa := ((((HF2.out.trans HF3.out).trans HF4.out).trans HF5.out).trans HF6.out)
  refine (fold_results (some ⟨g2, 0, none⟩) 1 1 L14 w6 (Kd.C_below HC.out (hFa.below (fun _ _ h => h))) good14 (by decide)).mono ?_
  rintro r w7 ⟨v, rfl, hR, hF7⟩
  obtain ⟨Ar, cr, rfl⟩ := Kd.R_slice hR
  rw [HLEN.out]
  have HFA := Lib.hid hFa
  clear hR hFa
  go_wp2_with fail
  go_ret
  exact ⟨rfl, (HF.out.trans HFA.out).trans hF7⟩
set_option maxRecDepth 100000 in
set_option maxHeartbeats 4000000 in
theorem lawPrefix14 (A A' : Option Addr) (n c n' c' : Nat) (L L' : List Wr) (w : World) (h : wrK.C w A n L) (h' : wrK.C w A' n' L') (hc' : n' ≤ c') :
    Calls Try.prog 6 #[.slice A n c, .slice A' n' c'] w fun r w' => r = .returned (.bool true) ∧ Fr (fun _ => False) w w' := by
  have hmx : n ≤ 9223372036854775807 := h.2.1
  have hmx' : n' ≤ 9223372036854775807 := h'.2.1
  have HL := Lib.hid (show L.length = n from h.1)
  have HL' := Lib.hid (show L'.length = n' from h'.1)
  have HC := Lib.hid h
  have HC' := Lib.hid h'
  clear h h'
  rcases Nat.lt_or_ge 100 n with hb1 | hb1
  · have t1 : decide ((100 : Int) < (n : Int)) = true := decide_eq_true (by omega)
    go_enter Try.func6, Try.ntmps6
    go_wp2_with fail
    refine (works14 _).mono ?_
    rintro e w1 ⟨rfl, hF1⟩
    go_wp2_with fail
    go_ret
    exact ⟨rfl, hF1⟩
  · have t1 : decide ((100 : Int) < (n : Int)) = false := decide_eq_false (by omega)
    rcases Nat.lt_or_ge 100 n' with hb2 | hb2
    · have t2 : decide ((100 : Int) < (n' : Int)) = true := decide_eq_true (by omega)
      go_enter Try.func6, Try.ntmps6
      go_wp2_with fail
      refine (works14 _).mono ?_
      rintro e w1 ⟨rfl, hF1⟩
      go_wp2_with fail
      go_ret
      exact ⟨rfl, hF1⟩
    · have t2 : decide ((100 : Int) < (n' : Int)) = false := decide_eq_false (by omega)
      by_cases hnn : n ≤ n'
      · have t3 : decide ((n : Int) ≤ (n' : Int)) = true := decide_eq_true (by omega)
        have t4 : min (n : Int) (n' : Int) = (n : Int) := by omega
        have HNN := Lib.hid hnn
        go_enter Try.func6, Try.ntmps6
        go_wp2_with fail
        have hCt : wrK.C w A' n (L'.take n) := by
          have := Kd.C_take (m := n) (show wrK.C w A' L'.length L' from by rw [HL'.out]; exact HC'.out) (by rw [HL'.out]; exact HNN.out)
          rwa [List.length_take, HL'.out, Nat.min_eq_left HNN.out] at this
        refine (ref_sameLog A A' n c n c' L (L'.take n) w HC.out hCt hmx hmx).mono ?_
        rintro r w1 ⟨rfl, hF1⟩
        have HF1 := Lib.hid hF1
        clear hF1 hCt
        go_wp2_with fail
        refine (fold_prefix A A' n c n' c' L L' w1 (Kd.C_below HC.out (HF1.out.below (fun _ _ h => h))) (Kd.C_below HC'.out (HF1.out.below (fun _ _ h => h))) hmx hmx').mono ?_
        rintro r w2 ⟨rfl, hF2⟩
        rw [decide_eq_true HNN.out, Bool.true_and]
        have HF2 := Lib.hid hF2
        clear hF2
        have hbb : ∀ b : Bool, (b == b) = true := fun b => by cases b <;> rfl
        generalize decide (L = L'.take n) = q
        cases q <;> (
          go_wp2_with fail
          refine (works14 _).mono ?_
          rintro e w3 ⟨rfl, hF3⟩
          go_wp2_with fail
          go_ret
          exact ⟨rfl, (HF1.out.trans HF2.out).trans hF3⟩)
      · have t3 : decide ((n : Int) ≤ (n' : Int)) = false := decide_eq_false (by omega)
        have HNN := Lib.hid hnn
        clear hnn
        go_enter Try.func6, Try.ntmps6
        go_wp2_with fail
        refine (fold_prefix A A' n c n' c' L L' _ HC.out HC'.out hmx hmx').mono ?_
        rintro r w2 ⟨rfl, hF2⟩
        rw [decide_eq_false HNN.out, Bool.false_and]
        go_wp2_with fail
        refine (works14 _).mono ?_
        rintro e w3 ⟨rfl, hF3⟩
        go_wp2_with fail
        go_ret
        exact ⟨rfl, hF2.trans hF3⟩
end Go.Proofs.Ytoklncfdhlplkaa
