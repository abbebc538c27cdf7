/- The law TallyCounts, walked. -/
import Derived.Test.YtlpigldogglmcaaTallyL
import Derived.Deep.RegionWith
set_option linter.unusedVariables false
set_option linter.unusedSimpArgs false
namespace Go.Proofs.Ytlpigldogglmcaa
open Go.RowKit

/-- The slice reads as pairs of small numbers. -/
def Pairs8 (w : World) (A : Option Addr) (len : Nat) (x y : Nat → Int) : Prop :=
  ∀ i, i < len → ∃ b off, A = some ⟨b, off, none⟩ ∧ w.cell? ⟨b, off + i * 2, none⟩ = some (.int .i8 (x i)) ∧ w.cell? ⟨b, off + i * 2 + 1, none⟩ = some (.int .i8 (y i)) ∧ -128 ≤ x i ∧ x i ≤ 127 ∧ -128 ≤ y i ∧ y i ≤ 127

set_option maxRecDepth 100000 in
set_option maxHeartbeats 2000000 in
theorem lawCounts (A : Option Addr) (len cap : Nat) (x y : Nat → Int) (w : World) (hl : len ≤ 200) (hr : Pairs8 w A len x y) :
    Calls Try.prog 6 #[.slice A len cap] w fun r w' => r = .returned (.bool true) ∧ Fr (fun _ => False) w w' := by
  go_enter Try.func6, Try.ntmps6
  go_wp2_with fail
  refine (tally_new _).mono ?_
  rintro r w0 ⟨rfl, rfl⟩
  go_wp2_with fail
  have HT := (Blk.new w 112 #[.int .i64 0, .int .i64 0, .int .i64 0, .int .i64 0, .int .i64 0, .int .i64 0, .int .i64 0]).alloc (.cells #[.int .i64 0, .int .i64 0, .int .i64 0, .int .i64 0, .int .i64 0, .int .i64 0, .int .i64 0] 51)
  have HC := Blk.new (w.alloc (.cells #[.int .i64 0, .int .i64 0, .int .i64 0, .int .i64 0, .int .i64 0, .int .i64 0, .int .i64 0] 112)) 51 #[.int .i64 0, .int .i64 0, .int .i64 0, .int .i64 0, .int .i64 0, .int .i64 0, .int .i64 0]
  have G0 : Fr (fun _ => False) w ((w.alloc (.cells #[.int .i64 0, .int .i64 0, .int .i64 0, .int .i64 0, .int .i64 0, .int .i64 0, .int .i64 0] 112)).alloc (.cells #[.int .i64 0, .int .i64 0, .int .i64 0, .int .i64 0, .int .i64 0, .int .i64 0, .int .i64 0] 51)) := ((Fr.refl _ _).alloc _).alloc _
  rw [World.size_alloc] at HC
  generalize (w.alloc (.cells #[.int .i64 0, .int .i64 0, .int .i64 0, .int .i64 0, .int .i64 0, .int .i64 0, .int .i64 0] 112)).alloc (.cells #[.int .i64 0, .int .i64 0, .int .i64 0, .int .i64 0, .int .i64 0, .int .i64 0, .int .i64 0] 51) = W at HT HC G0 ⊢
  go_loopw [5] (fun i wr => ∃ (k : Nat) (a b c d e f h : Int), k ≤ len ∧ i = .int .i64 k ∧ Blk wr w.heap.size 112 #[.int .i64 a, .int .i64 b, .int .i64 c, .int .i64 d, .int .i64 e, .int .i64 f, .int .i64 h] ∧
      Blk wr (w.heap.size + 1) 51 #[.int .i64 a, .int .i64 b, .int .i64 c, .int .i64 d, .int .i64 e, .int .i64 f, .int .i64 h] ∧ Fr (fun _ => False) w wr) (fun i _ => len - (intOf i).toNat)
  case atStart => exact ⟨0, 0, 0, 0, 0, 0, 0, 0, by omega, rfl, HT, HC, G0⟩
  case round =>
    clear HT HC G0
    obtain ⟨k, a, b, c, d, e, f, h, hk, rfl, HT, HC, G⟩ := hrel
    rcases Nat.lt_or_ge k len with hlt | hge
    · obtain ⟨bb, off, rfl, hx, hy, hx0, hx1, hy0, hy1⟩ := hr k hlt
      replace hx := G.cell hx (fun h => h)
      replace hy := G.cell hy (fun h => h)
      clear hr
      by_cases h0 : (x k).tmod 5 = 0
      · skip
        go_wp2_with fail
        refine (tally_visit _ a b c d e f h _ HT).mono ?_
        rintro r w1 ⟨rfl, HT1, F1⟩
        have HC1 := HC.fr F1 (fun h => by omega)
        have G1 := G.trans' F1 (fun i hi h => by omega)
        clear HT HC G F1
        have c0 : w1.cell? ⟨w.heap.size + 1, 0, none⟩ = some (.int .i64 a) := HC1.cell 0
        have f0 := HC1.frozen 0
        go_wp2_with fail
        have HT2 := (HT1.far (p := ⟨w.heap.size + 1, 0, none⟩) (by simp) (.int .i64 (wrap64 (a + 1))))
        have HC2 : Blk _ _ _ #[.int .i64 (wrap64 (a + 1)), .int .i64 b, .int .i64 c, .int .i64 d, .int .i64 e, .int .i64 f, .int .i64 h] := (HC1.set_ 0 (.int .i64 (wrap64 (a + 1))))
        have G2 := (G1.setCell (p := ⟨w.heap.size + 1, 0, none⟩) (.inr (by simp)) (.int .i64 (wrap64 (a + 1))))
        clear HT1 HC1 G1 hx hy c0 f0
        generalize (w1.setCell ⟨w.heap.size + 1, 0, none⟩ (.int .i64 (wrap64 (a + 1)))) = w2 at HT2 HC2 G2 ⊢
        have heq := fun w => neqCounts (wrap64 (a + 1)) b c d e f h (wrap64 (a + 1)) b c d e f h w
        simp only [and_self, decide_true, Bool.not_true] at heq
        have d0 := HC2.cell 0
        have d1 := HC2.cell 1
        have d2 := HC2.cell 2
        have d3 := HC2.cell 3
        have d4 := HC2.cell 4
        have d5 := HC2.cell 5
        have d6 := HC2.cell 6
        simp only [List.getElem?_toArray, List.getElem?_cons_zero, List.getElem?_cons_succ] at d0 d1 d2 d3 d4 d5 d6
        go_region_with (go_at_call 38; refine (tally_counts _ (wrap64 (a + 1)) b c d e f h _ HT2.drew).mono ?_; rintro r w3 ⟨rfl, F3⟩; have HC3 := Blk.fr HC2.drew F3 (fun h => h); have HT3 := Blk.fr HT2.drew F3 (fun h => h); have G3 := Fr.trans G2.drew F3; clear F3 d0 d1 d2 d3 d4 d5 d6; have d0 := HC3.cell 0; have d1 := HC3.cell 1; have d2 := HC3.cell 2; have d3 := HC3.cell 3; have d4 := HC3.cell 4; have d5 := HC3.cell 5; have d6 := HC3.cell 6; simp only [List.getElem?_toArray, List.getElem?_cons_zero, List.getElem?_cons_succ] at d0 d1 d2 d3 d4 d5 d6)
        all_goals go_wp2_with fail
        all_goals go_roundw
        all_goals first | exact ⟨k + 1, wrap64 (a + 1), b, c, d, e, f, h, by omega, by go_num, HT3, HC3, G3⟩ | (simp [intOf]; omega)
      · skip
        by_cases h1 : (x k).tmod 5 = 1
        · skip
          go_wp2_with fail
          refine (tally_scan _ a b c d e f h _ HT).mono ?_
          rintro r w1 ⟨rfl, HT1, F1⟩
          have HC1 := HC.fr F1 (fun h => by omega)
          have G1 := G.trans' F1 (fun i hi h => by omega)
          clear HT HC G F1
          have c1 : w1.cell? ⟨w.heap.size + 1, 1, none⟩ = some (.int .i64 b) := HC1.cell 1
          have f1 := HC1.frozen 1
          go_wp2_with fail
          have HT2 := (HT1.far (p := ⟨w.heap.size + 1, 1, none⟩) (by simp) (.int .i64 (wrap64 (b + 1))))
          have HC2 : Blk _ _ _ #[.int .i64 a, .int .i64 (wrap64 (b + 1)), .int .i64 c, .int .i64 d, .int .i64 e, .int .i64 f, .int .i64 h] := (HC1.set_ 1 (.int .i64 (wrap64 (b + 1))))
          have G2 := (G1.setCell (p := ⟨w.heap.size + 1, 1, none⟩) (.inr (by simp)) (.int .i64 (wrap64 (b + 1))))
          clear HT1 HC1 G1 hx hy c1 f1
          generalize (w1.setCell ⟨w.heap.size + 1, 1, none⟩ (.int .i64 (wrap64 (b + 1)))) = w2 at HT2 HC2 G2 ⊢
          have heq := fun w => neqCounts a (wrap64 (b + 1)) c d e f h a (wrap64 (b + 1)) c d e f h w
          simp only [and_self, decide_true, Bool.not_true] at heq
          have d0 := HC2.cell 0
          have d1 := HC2.cell 1
          have d2 := HC2.cell 2
          have d3 := HC2.cell 3
          have d4 := HC2.cell 4
          have d5 := HC2.cell 5
          have d6 := HC2.cell 6
          simp only [List.getElem?_toArray, List.getElem?_cons_zero, List.getElem?_cons_succ] at d0 d1 d2 d3 d4 d5 d6
          go_region_with (go_at_call 38; refine (tally_counts _ a (wrap64 (b + 1)) c d e f h _ HT2.drew).mono ?_; rintro r w3 ⟨rfl, F3⟩; have HC3 := Blk.fr HC2.drew F3 (fun h => h); have HT3 := Blk.fr HT2.drew F3 (fun h => h); have G3 := Fr.trans G2.drew F3; clear F3 d0 d1 d2 d3 d4 d5 d6; have d0 := HC3.cell 0; have d1 := HC3.cell 1; have d2 := HC3.cell 2; have d3 := HC3.cell 3; have d4 := HC3.cell 4; have d5 := HC3.cell 5; have d6 := HC3.cell 6; simp only [List.getElem?_toArray, List.getElem?_cons_zero, List.getElem?_cons_succ] at d0 d1 d2 d3 d4 d5 d6)
          all_goals go_wp2_with fail
          all_goals go_roundw
          all_goals first | exact ⟨k + 1, a, wrap64 (b + 1), c, d, e, f, h, by omega, by go_num, HT3, HC3, G3⟩ | (simp [intOf]; omega)
        · skip
          by_cases h2 : (x k).tmod 5 = 2
          · skip
            rcases Int.lt_or_le 0 (y k) with hn | hn
            · skip
              go_wp2_with fail
              refine (tally_wake _ a b c d e f h (y k) _ hn HT).mono ?_
              rintro r w1 ⟨rfl, HT1, F1⟩
              have HC1 := HC.fr F1 (fun h => by omega)
              have G1 := G.trans' F1 (fun i hi h => by omega)
              clear HT HC G F1
              have c3 : w1.cell? ⟨w.heap.size + 1, 3, none⟩ = some (.int .i64 d) := HC1.cell 3
              have f3 := HC1.frozen 3
              have c2 : w1.cell? ⟨w.heap.size + 1, 2, none⟩ = some (.int .i64 c) := HC1.cell 2
              have f2 := HC1.frozen 2
              go_wp2_with fail
              have HT2 := ((HT1.far (p := ⟨w.heap.size + 1, 3, none⟩) (by simp) (.int .i64 (wrap64 (d + 1)))).far (p := ⟨w.heap.size + 1, 2, none⟩) (by simp) (.int .i64 (wrap64 (c + y k))))
              have HC2 : Blk _ _ _ #[.int .i64 a, .int .i64 b, .int .i64 (wrap64 (c + y k)), .int .i64 (wrap64 (d + 1)), .int .i64 e, .int .i64 f, .int .i64 h] := ((HC1.set_ 3 (.int .i64 (wrap64 (d + 1)))).set_ 2 (.int .i64 (wrap64 (c + y k))))
              have G2 := ((G1.setCell (p := ⟨w.heap.size + 1, 3, none⟩) (.inr (by simp)) (.int .i64 (wrap64 (d + 1)))).setCell (p := ⟨w.heap.size + 1, 2, none⟩) (.inr (by simp)) (.int .i64 (wrap64 (c + y k))))
              clear HT1 HC1 G1 hx hy c3 f3 c2 f2
              generalize ((w1.setCell ⟨w.heap.size + 1, 3, none⟩ (.int .i64 (wrap64 (d + 1)))).setCell ⟨w.heap.size + 1, 2, none⟩ (.int .i64 (wrap64 (c + y k)))) = w2 at HT2 HC2 G2 ⊢
              have heq := fun w => neqCounts a b (wrap64 (c + y k)) (wrap64 (d + 1)) e f h a b (wrap64 (c + y k)) (wrap64 (d + 1)) e f h w
              simp only [and_self, decide_true, Bool.not_true] at heq
              have d0 := HC2.cell 0
              have d1 := HC2.cell 1
              have d2 := HC2.cell 2
              have d3 := HC2.cell 3
              have d4 := HC2.cell 4
              have d5 := HC2.cell 5
              have d6 := HC2.cell 6
              simp only [List.getElem?_toArray, List.getElem?_cons_zero, List.getElem?_cons_succ] at d0 d1 d2 d3 d4 d5 d6
              go_region_with (go_at_call 38; refine (tally_counts _ a b (wrap64 (c + y k)) (wrap64 (d + 1)) e f h _ HT2.drew).mono ?_; rintro r w3 ⟨rfl, F3⟩; have HC3 := Blk.fr HC2.drew F3 (fun h => h); have HT3 := Blk.fr HT2.drew F3 (fun h => h); have G3 := Fr.trans G2.drew F3; clear F3 d0 d1 d2 d3 d4 d5 d6; have d0 := HC3.cell 0; have d1 := HC3.cell 1; have d2 := HC3.cell 2; have d3 := HC3.cell 3; have d4 := HC3.cell 4; have d5 := HC3.cell 5; have d6 := HC3.cell 6; simp only [List.getElem?_toArray, List.getElem?_cons_zero, List.getElem?_cons_succ] at d0 d1 d2 d3 d4 d5 d6)
              all_goals go_wp2_with fail
              all_goals go_roundw
              all_goals first | exact ⟨k + 1, a, b, wrap64 (c + y k), wrap64 (d + 1), e, f, h, by omega, by go_num, HT3, HC3, G3⟩ | (simp [intOf]; omega)
            · skip
              go_wp2_with fail
              refine (tally_wake_no _ (y k) _ hn).mono ?_
              rintro r w1 ⟨rfl, rfl⟩
              have HT2 := HT.alloc (.cells #[.int .i64 (y k)] 3)
              have HC2 := HC.alloc (.cells #[.int .i64 (y k)] 3)
              have G2 := G.alloc (.cells #[.int .i64 (y k)] 3)
              clear HT HC G hx hy
              generalize wr.alloc (.cells #[.int .i64 (y k)] 3) = w2 at HT2 HC2 G2 ⊢
              go_wp2_with fail
              have heq := fun w => neqCounts a b c d e f h a b c d e f h w
              simp only [and_self, decide_true, Bool.not_true] at heq
              have d0 := HC2.cell 0
              have d1 := HC2.cell 1
              have d2 := HC2.cell 2
              have d3 := HC2.cell 3
              have d4 := HC2.cell 4
              have d5 := HC2.cell 5
              have d6 := HC2.cell 6
              simp only [List.getElem?_toArray, List.getElem?_cons_zero, List.getElem?_cons_succ] at d0 d1 d2 d3 d4 d5 d6
              go_region_with (go_at_call 38; refine (tally_counts _ a b c d e f h _ HT2.drew).mono ?_; rintro r w3 ⟨rfl, F3⟩; have HC3 := Blk.fr HC2.drew F3 (fun h => h); have HT3 := Blk.fr HT2.drew F3 (fun h => h); have G3 := Fr.trans G2.drew F3; clear F3 d0 d1 d2 d3 d4 d5 d6; have d0 := HC3.cell 0; have d1 := HC3.cell 1; have d2 := HC3.cell 2; have d3 := HC3.cell 3; have d4 := HC3.cell 4; have d5 := HC3.cell 5; have d6 := HC3.cell 6; simp only [List.getElem?_toArray, List.getElem?_cons_zero, List.getElem?_cons_succ] at d0 d1 d2 d3 d4 d5 d6)
              all_goals go_wp2_with fail
              all_goals go_roundw
              all_goals first | exact ⟨k + 1, a, b, c, d, e, f, h, by omega, by go_num, HT3, HC3, G3⟩ | (simp [intOf]; omega)
          · skip
            by_cases h3 : (x k).tmod 5 = 3
            · skip
              rcases Int.lt_or_le (y k) 0 with hn | hn
              · skip
                go_wp2_with fail
                refine (tally_accept _ a b c d e f h (y k) _ HT).mono ?_
                rintro r w1 ⟨rfl, HT1, F1⟩
                have hm : max (y k) 0 = 0 := by omega
                rw [hm, Int.add_zero] at HT1
                clear hm
                have HC1 := HC.fr F1 (fun h => by omega)
                have G1 := G.trans' F1 (fun i hi h => by omega)
                clear HT HC G F1
                have c4 : w1.cell? ⟨w.heap.size + 1, 4, none⟩ = some (.int .i64 e) := HC1.cell 4
                have f4 := HC1.frozen 4
                have c5 : w1.cell? ⟨w.heap.size + 1, 5, none⟩ = some (.int .i64 f) := HC1.cell 5
                have f5 := HC1.frozen 5
                go_wp2_with fail
                have HT2 := ((HT1.far (p := ⟨w.heap.size + 1, 4, none⟩) (by simp) (.int .i64 (wrap64 (e + 1)))).far (p := ⟨w.heap.size + 1, 5, none⟩) (by simp) (.int .i64 (wrap64 f)))
                have HC2 : Blk _ _ _ #[.int .i64 a, .int .i64 b, .int .i64 c, .int .i64 d, .int .i64 (wrap64 (e + 1)), .int .i64 (wrap64 f), .int .i64 h] := ((HC1.set_ 4 (.int .i64 (wrap64 (e + 1)))).set_ 5 (.int .i64 (wrap64 f)))
                have G2 := ((G1.setCell (p := ⟨w.heap.size + 1, 4, none⟩) (.inr (by simp)) (.int .i64 (wrap64 (e + 1)))).setCell (p := ⟨w.heap.size + 1, 5, none⟩) (.inr (by simp)) (.int .i64 (wrap64 f)))
                clear HT1 HC1 G1 hx hy c4 f4 c5 f5
                generalize ((w1.setCell ⟨w.heap.size + 1, 4, none⟩ (.int .i64 (wrap64 (e + 1)))).setCell ⟨w.heap.size + 1, 5, none⟩ (.int .i64 (wrap64 f))) = w2 at HT2 HC2 G2 ⊢
                have heq := fun w => neqCounts a b c d (wrap64 (e + 1)) (wrap64 f) h a b c d (wrap64 (e + 1)) (wrap64 f) h w
                simp only [and_self, decide_true, Bool.not_true] at heq
                have d0 := HC2.cell 0
                have d1 := HC2.cell 1
                have d2 := HC2.cell 2
                have d3 := HC2.cell 3
                have d4 := HC2.cell 4
                have d5 := HC2.cell 5
                have d6 := HC2.cell 6
                simp only [List.getElem?_toArray, List.getElem?_cons_zero, List.getElem?_cons_succ] at d0 d1 d2 d3 d4 d5 d6
                go_region_with (go_at_call 38; refine (tally_counts _ a b c d (wrap64 (e + 1)) (wrap64 f) h _ HT2.drew).mono ?_; rintro r w3 ⟨rfl, F3⟩; have HC3 := Blk.fr HC2.drew F3 (fun h => h); have HT3 := Blk.fr HT2.drew F3 (fun h => h); have G3 := Fr.trans G2.drew F3; clear F3 d0 d1 d2 d3 d4 d5 d6; have d0 := HC3.cell 0; have d1 := HC3.cell 1; have d2 := HC3.cell 2; have d3 := HC3.cell 3; have d4 := HC3.cell 4; have d5 := HC3.cell 5; have d6 := HC3.cell 6; simp only [List.getElem?_toArray, List.getElem?_cons_zero, List.getElem?_cons_succ] at d0 d1 d2 d3 d4 d5 d6)
                all_goals go_wp2_with fail
                all_goals go_roundw
                all_goals first | exact ⟨k + 1, a, b, c, d, wrap64 (e + 1), wrap64 f, h, by omega, by go_num, HT3, HC3, G3⟩ | (simp [intOf]; omega)
              · skip
                go_wp2_with fail
                refine (tally_accept _ a b c d e f h (y k) _ HT).mono ?_
                rintro r w1 ⟨rfl, HT1, F1⟩
                have hm : max (y k) 0 = y k := by omega
                rw [hm] at HT1
                clear hm
                have HC1 := HC.fr F1 (fun h => by omega)
                have G1 := G.trans' F1 (fun i hi h => by omega)
                clear HT HC G F1
                have c4 : w1.cell? ⟨w.heap.size + 1, 4, none⟩ = some (.int .i64 e) := HC1.cell 4
                have f4 := HC1.frozen 4
                have c5 : w1.cell? ⟨w.heap.size + 1, 5, none⟩ = some (.int .i64 f) := HC1.cell 5
                have f5 := HC1.frozen 5
                go_wp2_with fail
                have HT2 := ((HT1.far (p := ⟨w.heap.size + 1, 4, none⟩) (by simp) (.int .i64 (wrap64 (e + 1)))).far (p := ⟨w.heap.size + 1, 5, none⟩) (by simp) (.int .i64 (wrap64 (f + y k))))
                have HC2 : Blk _ _ _ #[.int .i64 a, .int .i64 b, .int .i64 c, .int .i64 d, .int .i64 (wrap64 (e + 1)), .int .i64 (wrap64 (f + y k)), .int .i64 h] := ((HC1.set_ 4 (.int .i64 (wrap64 (e + 1)))).set_ 5 (.int .i64 (wrap64 (f + y k))))
                have G2 := ((G1.setCell (p := ⟨w.heap.size + 1, 4, none⟩) (.inr (by simp)) (.int .i64 (wrap64 (e + 1)))).setCell (p := ⟨w.heap.size + 1, 5, none⟩) (.inr (by simp)) (.int .i64 (wrap64 (f + y k))))
                clear HT1 HC1 G1 hx hy c4 f4 c5 f5
                generalize ((w1.setCell ⟨w.heap.size + 1, 4, none⟩ (.int .i64 (wrap64 (e + 1)))).setCell ⟨w.heap.size + 1, 5, none⟩ (.int .i64 (wrap64 (f + y k)))) = w2 at HT2 HC2 G2 ⊢
                have heq := fun w => neqCounts a b c d (wrap64 (e + 1)) (wrap64 (f + y k)) h a b c d (wrap64 (e + 1)) (wrap64 (f + y k)) h w
                simp only [and_self, decide_true, Bool.not_true] at heq
                have d0 := HC2.cell 0
                have d1 := HC2.cell 1
                have d2 := HC2.cell 2
                have d3 := HC2.cell 3
                have d4 := HC2.cell 4
                have d5 := HC2.cell 5
                have d6 := HC2.cell 6
                simp only [List.getElem?_toArray, List.getElem?_cons_zero, List.getElem?_cons_succ] at d0 d1 d2 d3 d4 d5 d6
                go_region_with (go_at_call 38; refine (tally_counts _ a b c d (wrap64 (e + 1)) (wrap64 (f + y k)) h _ HT2.drew).mono ?_; rintro r w3 ⟨rfl, F3⟩; have HC3 := Blk.fr HC2.drew F3 (fun h => h); have HT3 := Blk.fr HT2.drew F3 (fun h => h); have G3 := Fr.trans G2.drew F3; clear F3 d0 d1 d2 d3 d4 d5 d6; have d0 := HC3.cell 0; have d1 := HC3.cell 1; have d2 := HC3.cell 2; have d3 := HC3.cell 3; have d4 := HC3.cell 4; have d5 := HC3.cell 5; have d6 := HC3.cell 6; simp only [List.getElem?_toArray, List.getElem?_cons_zero, List.getElem?_cons_succ] at d0 d1 d2 d3 d4 d5 d6)
                all_goals go_wp2_with fail
                all_goals go_roundw
                all_goals first | exact ⟨k + 1, a, b, c, d, wrap64 (e + 1), wrap64 (f + y k), h, by omega, by go_num, HT3, HC3, G3⟩ | (simp [intOf]; omega)
            · skip
              by_cases h4 : (x k).tmod 5 = 4
              · skip
                go_wp2_with fail
                refine (tally_call _ a b c d e f h _ HT).mono ?_
                rintro r w1 ⟨rfl, HT1, F1⟩
                have HC1 := HC.fr F1 (fun h => by omega)
                have G1 := G.trans' F1 (fun i hi h => by omega)
                clear HT HC G F1
                have c6 : w1.cell? ⟨w.heap.size + 1, 6, none⟩ = some (.int .i64 h) := HC1.cell 6
                have f6 := HC1.frozen 6
                go_wp2_with fail
                have HT2 := (HT1.far (p := ⟨w.heap.size + 1, 6, none⟩) (by simp) (.int .i64 (wrap64 (h + 1))))
                have HC2 : Blk _ _ _ #[.int .i64 a, .int .i64 b, .int .i64 c, .int .i64 d, .int .i64 e, .int .i64 f, .int .i64 (wrap64 (h + 1))] := (HC1.set_ 6 (.int .i64 (wrap64 (h + 1))))
                have G2 := (G1.setCell (p := ⟨w.heap.size + 1, 6, none⟩) (.inr (by simp)) (.int .i64 (wrap64 (h + 1))))
                clear HT1 HC1 G1 hx hy c6 f6
                generalize (w1.setCell ⟨w.heap.size + 1, 6, none⟩ (.int .i64 (wrap64 (h + 1)))) = w2 at HT2 HC2 G2 ⊢
                have heq := fun w => neqCounts a b c d e f (wrap64 (h + 1)) a b c d e f (wrap64 (h + 1)) w
                simp only [and_self, decide_true, Bool.not_true] at heq
                have d0 := HC2.cell 0
                have d1 := HC2.cell 1
                have d2 := HC2.cell 2
                have d3 := HC2.cell 3
                have d4 := HC2.cell 4
                have d5 := HC2.cell 5
                have d6 := HC2.cell 6
                simp only [List.getElem?_toArray, List.getElem?_cons_zero, List.getElem?_cons_succ] at d0 d1 d2 d3 d4 d5 d6
                go_region_with (go_at_call 38; refine (tally_counts _ a b c d e f (wrap64 (h + 1)) _ HT2.drew).mono ?_; rintro r w3 ⟨rfl, F3⟩; have HC3 := Blk.fr HC2.drew F3 (fun h => h); have HT3 := Blk.fr HT2.drew F3 (fun h => h); have G3 := Fr.trans G2.drew F3; clear F3 d0 d1 d2 d3 d4 d5 d6; have d0 := HC3.cell 0; have d1 := HC3.cell 1; have d2 := HC3.cell 2; have d3 := HC3.cell 3; have d4 := HC3.cell 4; have d5 := HC3.cell 5; have d6 := HC3.cell 6; simp only [List.getElem?_toArray, List.getElem?_cons_zero, List.getElem?_cons_succ] at d0 d1 d2 d3 d4 d5 d6)
                all_goals go_wp2_with fail
                all_goals go_roundw
                all_goals first | exact ⟨k + 1, a, b, c, d, e, f, wrap64 (h + 1), by omega, by go_num, HT3, HC3, G3⟩ | (simp [intOf]; omega)
              · skip
                have HT2 := HT
                have HC2 := HC
                have G2 := G
                clear HT HC G
                go_wp2_with fail
                clear hx hy
                have heq := fun w => neqCounts a b c d e f h a b c d e f h w
                simp only [and_self, decide_true, Bool.not_true] at heq
                have d0 := HC2.cell 0
                have d1 := HC2.cell 1
                have d2 := HC2.cell 2
                have d3 := HC2.cell 3
                have d4 := HC2.cell 4
                have d5 := HC2.cell 5
                have d6 := HC2.cell 6
                simp only [List.getElem?_toArray, List.getElem?_cons_zero, List.getElem?_cons_succ] at d0 d1 d2 d3 d4 d5 d6
                go_region_with (go_at_call 38; refine (tally_counts _ a b c d e f h _ HT2.drew).mono ?_; rintro r w3 ⟨rfl, F3⟩; have HC3 := Blk.fr HC2.drew F3 (fun h => h); have HT3 := Blk.fr HT2.drew F3 (fun h => h); have G3 := Fr.trans G2.drew F3; clear F3 d0 d1 d2 d3 d4 d5 d6; have d0 := HC3.cell 0; have d1 := HC3.cell 1; have d2 := HC3.cell 2; have d3 := HC3.cell 3; have d4 := HC3.cell 4; have d5 := HC3.cell 5; have d6 := HC3.cell 6; simp only [List.getElem?_toArray, List.getElem?_cons_zero, List.getElem?_cons_succ] at d0 d1 d2 d3 d4 d5 d6)
                all_goals go_wp2_with fail
                all_goals go_roundw
                all_goals first | exact ⟨k + 1, a, b, c, d, e, f, h, by omega, by go_num, HT3, HC3, G3⟩ | (simp [intOf]; omega)
    · obtain rfl : k = len := by omega
      clear hr
      go_wp2_with fail
      refine (tally_visit_nil _).mono ?_
      rintro r w1 ⟨rfl, rfl⟩
      go_wp2_with fail
      refine (tally_wake_nil 3 _).mono ?_
      rintro r w1 ⟨rfl, rfl⟩
      replace G := G.alloc (.cells #[.int .i64 3] 3)
      clear HT HC
      generalize w1.alloc (.cells #[.int .i64 3] 3) = w2 at G ⊢
      go_wp2_with fail
      refine (tally_counts_nil _).mono ?_
      rintro r w3 ⟨rfl, F3⟩
      replace G := G.trans F3
      clear F3
      have heq := fun w => eqCounts 0 0 0 0 0 0 0 0 0 0 0 0 0 0 w
      simp only [and_self, decide_true] at heq
      go_wp2_with fail
      refine (works25 _).mono ?_
      rintro r w4 ⟨rfl, F4⟩
      replace G := G.trans F4
      clear F4
      go_wp2_with fail
      go_ret
      exact ⟨rfl, G⟩

set_option maxRecDepth 100000 in
theorem lawCounts_long (A : Option Addr) (len cap : Nat) (w : World) (hl : 200 < len) (hm : len ≤ 9223372036854775807) :
    Calls Try.prog 6 #[.slice A len cap] w fun r w' => r = .returned (.bool true) ∧ Fr (fun _ => False) w w' := by
  go_enter Try.func6, Try.ntmps6
  go_wp2_with fail
  refine (works25 _).mono ?_
  rintro r w4 ⟨rfl, F4⟩
  go_wp2_with fail
  go_ret
  exact ⟨rfl, F4⟩
end Go.Proofs.Ytlpigldogglmcaa
