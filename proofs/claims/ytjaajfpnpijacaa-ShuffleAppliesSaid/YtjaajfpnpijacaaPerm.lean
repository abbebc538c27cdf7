/- The order of a seed: what Perm makes. -/
import Derived.Test.YtjaajfpnpijacaaShufQ
import Derived.Test.YtjaajfpnpijacaaReg3
set_option linter.unusedVariables false
set_option linter.unusedSimpArgs false
namespace Go.Proofs.Ytjaajfpnpijacaa
open Go.RowKit
open Go.Proofs.YtjaajfpnpijacaaW.PrintWords

def nextP (st : Nat) : Nat := (st * 6364136223846793005 + 1442695040888963407) % 18446744073709551616
def takeP (st q : Nat) : Nat := st / 8589934592 % q
/-- What is done from place q - 1 down to place 1. -/
def permGo : Nat → Nat → List Int → List Int
  | 0, _, s => s
  | 1, _, s => s
  | q + 2, st, s => permGo (q + 1) (nextP st) (swapR s (q + 1) (takeP (nextP st) (q + 2)))
theorem nextP_lt (st : Nat) : nextP st < 18446744073709551616 := Nat.mod_lt _ (by omega)
theorem next_wrap (x : Nat) : IntKind.u64.wrap (IntKind.u64.wrap ((x : Int) * 6364136223846793005) + 1442695040888963407) = ((nextP x : Nat) : Int) := by
  have hw : ∀ z : Int, IntKind.u64.wrap z = z % 18446744073709551616 := fun z => by
    simp [IntKind.wrap, IntKind.signed, IntKind.bits]
  rw [hw, hw, nextP]
  omega
theorem takeP_lt (st q : Nat) (h : 0 < q) : takeP st q < q := Nat.mod_lt _ h
def permR (seed n : Nat) : List Int := permGo n seed (upto n)
theorem permGo_step (q st : Nat) (s : List Int) : permGo (q + 2) st s = permGo (q + 1) (nextP st) (swapR s (q + 1) (takeP (nextP st) (q + 2))) := rfl
theorem swapR_ix {p : List Int} {i k : Nat} (hi : i < p.length) (hk : k < p.length) : swapR p i k = (p.set i (ix p k)).set k (ix p i) := rfl
theorem upto_ix {n j : Nat} (h : j < n) : ix (upto n) j = j := by
  unfold ix upto
  rw [List.getD_eq_getElem?_getD, List.getElem?_map, List.getElem?_range h]
  rfl
theorem eq_upto {s : List Int} {n : Nat} (hl : s.length = n) (h : ∀ j, j < n → ix s j = j) : s = upto n := by
  apply List.ext_getElem?
  intro i
  rcases Nat.lt_or_ge i n with hi | hi
  · rw [ix_get (by omega), ix_get (by rw [upto_len]; omega), h i hi, upto_ix hi]
  · rw [List.getElem?_eq_none (by omega), List.getElem?_eq_none (by rw [upto_len]; omega)]
set_option maxRecDepth 100000 in
set_option maxHeartbeats 4000000 in
theorem shuf_perm_no (seed : Nat) (n : Int) (w : World) (h : n < 0) : Calls Try.prog 7 #[.int .u64 seed, .int .i64 n] w fun r w' => r = .returned (.slice none 0 0) ∧ w = w' := by
  have t1 : decide (n < 0) = true := decide_eq_true h
  go_enter Try.func7, Try.ntmps7
  go_wp2_with fail
  go_ret
  exact ⟨rfl, rfl⟩
/-- A list of whole numbers is returned, in new memory; no old block has changed. -/
def NewInts (w : World) (L : List Int) (r : Ending) (w' : World) : Prop := ∃ g c, r = .returned (.slice (some ⟨g, 0, none⟩) L.length c) ∧ L.length ≤ c ∧ w.heap.size ≤ g ∧ intK.C w' (some ⟨g, 0, none⟩) L.length L ∧ Fr (fun _ => False) w w'
set_option maxRecDepth 100000 in
set_option maxHeartbeats 4000000 in
theorem shuf_perm (seed n : Nat) (w : World) (hs : seed < 18446744073709551616) (hn : n ≤ 4096) : Calls Try.prog 7 #[.int .u64 seed, .int .i64 n] w (NewInts w (permR seed n)) := by
  have hmk := print_make (P := Try.prog) 24 3 .i64 8 Try.underlying24 info_int (by omega) n (by omega)
  go_enter Try.func7, Try.ntmps7
  go_wp2_with fail
  have hB0 := IntsAt.made w n
  have hF0 := (Fr.refl (fun _ => False) w).alloc (.cells (madeCells #[.int .i64 0] n) 3)
  obtain ⟨g, hg⟩ : ∃ g, g = w.heap.size := ⟨_, rfl⟩
  rw [← hg] at hB0 ⊢
  replace hg := Lib.hid hg
  generalize w.alloc (.cells (madeCells #[.int .i64 0] n) 3) = w1 at hB0 hF0 ⊢
  go_loopw [20] (fun i wr => ∃ (k : Nat) (s : List Int), k ≤ n ∧ i = .int .i64 k ∧ IntsAt wr g s ∧ s.length = n ∧ (∀ j, j < k → ix s j = j) ∧ Fr (fun _ => False) w wr) (fun i _ => n - (intOf i).toNat)
  case atStart => exact ⟨0, _, by omega, rfl, hB0, by simp, fun _ h => by omega, hF0⟩
  case round =>
    clear hB0 hF0 hmk
    obtain ⟨k, s, hk, rfl, hB, hl, hP, hG⟩ := hrel
    have HB := Lib.hid hB
    have HL := Lib.hid hl
    have HP := Lib.hid hP
    have HG := Lib.hid hG
    clear hB hl hP hG
    rcases Nat.lt_or_ge k n with hlt | hge
    · obtain ⟨s0, sf⟩ := HB.out.cell (i := k) (by rw [HL.out]; exact hlt)
      go_wp2_with fail
      go_roundw
      case rel => exact ⟨k + 1, s.set k k, by omega, by go_num, HB.out.set_ k k, by rw [List.length_set]; exact HL.out, fun j hj => by
        rw [ix_set (by rw [HL.out]; exact hlt)]
        by_cases e : k = j
        · rw [if_pos e, e]
        · rw [if_neg e]; exact HP.out j (by omega), HG.out.setCell (p := ⟨g, k, none⟩) (.inr (by have := hg.out; simp; omega)) _⟩
      case measure => simp [intOf]; omega
    · have hs' : s = upto n := eq_upto HL.out (fun j hj => HP.out j (by omega))
      subst hs'
      obtain ⟨wo, hwo⟩ : ∃ wo : World, wo = wr := ⟨_, rfl⟩
      subst hwo
      have i1 : IntKind.i64.wrap ((n : Int) - 1) = (n : Int) - 1 := IntWalk.i64_in _ (by omega)
      obtain rfl : n = k := by omega
      have tk : decide (n < n) = false := by simp
      go_wp2_with fail
      go_loopw [7, 8] (fun st i wi => ∃ (q x : Nat) (s : List Int), q ≤ n ∧ i = .int .i64 ((q : Int) - 1) ∧ x < 18446744073709551616 ∧ st = .int .u64 x ∧ IntsAt wi g s ∧ s.length = n ∧ RightR s ∧ permGo q x s = permR seed n ∧ Fr (fun _ => False) w wi) (fun _ i _ => (intOf i).toNat)
      case atStart => exact ⟨n, seed, upto n, by omega, rfl, hs, rfl, HB.out, HL.out, upto_right n, rfl, HG.out⟩
      case round =>
        obtain ⟨q, x, s, hq, rfl, hx, rfl, hB, hl, hR, hP, hG'⟩ := hrel
        have HB' := Lib.hid hB
        have HL' := Lib.hid hl
        have HR' := Lib.hid hR
        have HP' := Lib.hid hP
        have HG' := Lib.hid hG'
        have HX := Lib.hid hx
        clear hB hl hR hP hG' hx HB HL HP HG
        rcases Nat.lt_or_ge q 2 with hlt | hge2
        · have hfin : s = permR seed n := by
            rw [← HP'.out]
            rcases (show q = 0 ∨ q = 1 by omega) with rfl | rfl <;> rfl
          have t0 : decide ((1 : Int) < (q : Int) - 1) = false := decide_eq_false (by omega)
          have t1 : decide ((0 : Int) < (q : Int) - 1) = false := decide_eq_false (by omega)
          have HFIN := Lib.hid hfin
          clear hfin
          go_wp2_with fail
          go_ret
          have hC := HB'.out.reads (by rw [HL'.out]; omega)
          rw [← HFIN.out]
          exact ⟨g, s.length, by rw [HL'.out]; rfl, Nat.le_refl _, by have := hg.out; omega, hC, HG'.out⟩
        · obtain ⟨q2, rfl⟩ : ∃ q2, q = q2 + 2 := ⟨q - 2, by omega⟩
          obtain ⟨y, hy⟩ : ∃ y, y = nextP x := ⟨_, rfl⟩
          obtain ⟨t, ht⟩ : ∃ t, t = takeP y (q2 + 2) := ⟨_, rfl⟩
          have htl : t < q2 + 2 := by rw [ht]; exact takeP_lt _ _ (by omega)
          have htn : t < n := Nat.lt_of_lt_of_le htl hq
          have hqn : q2 + 1 < n := hq
          have hl1 : q2 + 1 < s.length := by rw [HL'.out]; exact hq
          have hl2 : t < s.length := by rw [HL'.out]; exact htn
          have h1 : RightR (swapR s (q2 + 1) t) := swapR_right HR'.out hl1 hl2
          have b1 : (0 : Int) ≤ (q2 : Int) + 1 ∧ (q2 : Int) + 1 < (n : Int) := by omega
          have b1a : (0 : Int) ≤ (q2 : Int) + 1 := b1.1
          have b1b : (q2 : Int) + 1 < (n : Int) := b1.2
          have hyl : y < 18446744073709551616 := by rw [hy]; exact nextP_lt x
          have hE1 : IntKind.u64.wrap (IntKind.u64.wrap ((x : Int) * 6364136223846793005) + 1442695040888963407) = (y : Int) := by
            rw [hy]
            exact next_wrap x
          have hE2 : wrap64 (((y : Int) / 8589934592).tmod ((q2 : Int) + 2)) = (t : Int) := by
            have e1 : ((y : Int) / 8589934592) = ((y / 8589934592 : Nat) : Int) := by omega
            have e2 : ((q2 : Int) + 2) = ((q2 + 2 : Nat) : Int) := by omega
            rw [e1, e2, Int.tmod_eq_emod_of_nonneg (by omega), ← Int.natCast_emod, ht]
            unfold takeP at *
            have := Nat.mod_lt (y / 8589934592) (show 0 < q2 + 2 by omega)
            unfold wrap64
            omega
          have hE3 : (((q2 + 2 : Nat) : Int) - 1) = ((q2 + 1 : Nat) : Int) := by omega
          have h2 := (permGo_step q2 x s).symm.trans HP'.out
          rw [← hy, ← ht] at h2
          have H1 := Lib.hid h1
          have H2 := Lib.hid h2
          have HE1 := Lib.hid hE1
          have HE2 := Lib.hid hE2
          have HE3 := Lib.hid hE3
          have HY := Lib.hid hyl
          have HL1 := Lib.hid hl1
          have HL2 := Lib.hid hl2
          clear h1 h2 hE1 hE2 hE3 hyl hy ht b1
          go_wp2_with fail
          rw [HE1.out, HE2.out, HE3.out]
          obtain ⟨s0, sf0⟩ := HB'.out.cell (i := q2 + 1) hl1
          obtain ⟨s1, sf1⟩ := HB'.out.cell (i := t) hl2
          obtain ⟨St, hSt⟩ : ∃ St : World → Prop, St = fun w' => w'.heap[g]? = wr.heap[g]? := ⟨_, rfl⟩
          have HS0 : ∀ w' : World, w'.heap = wr.heap → At St w' := fun w' h => by unfold At; rw [hSt]; show w'.heap[g]? = _; rw [h]
          have k0 : ∀ w', At St w' → w'.cell? ⟨g, q2 + 1, none⟩ = some (.int .i64 (ix s (q2 + 1))) := fun w' h => by
            replace h := h.out; rw [hSt] at h; exact (World.cell?_of_block (a := ⟨g, q2 + 1, none⟩) h).trans s0
          have k1 : ∀ w', At St w' → w'.cell? ⟨g, t, none⟩ = some (.int .i64 (ix s t)) := fun w' h => by
            replace h := h.out; rw [hSt] at h; exact (World.cell?_of_block (a := ⟨g, t, none⟩) h).trans s1
          clear hSt hl1 hl2
          refine rt_start [13] (At St) 16 (by kernel_rfl) rfl ?_
          refine rt_free 0 (v := ?_) rfl (by kernel_rfl) (by kernel_rfl) (by kernel_rfl) (by kernel_rfl) (fun _ _ _ h => h) (by rfl) (fun _ => by first | assumption | exact HS0 _ rfl) ?_ ?_
          rotate_left 1
          · intro w; go_simp <;> with_reducible rfl
          try simp only [Act.put, List.setIfInBounds_toArray, List.set_cons_zero, List.set_cons_succ]
          refine rt_free 1 (v := ?_) rfl (by kernel_rfl) (by kernel_rfl) (by kernel_rfl) (by kernel_rfl) (fun _ _ _ h => h) (by rfl) (fun _ => by first | assumption | exact HS0 _ rfl) ?_ ?_
          rotate_left 1
          · intro w; go_simp <;> with_reducible rfl
          try simp only [Act.put, List.setIfInBounds_toArray, List.set_cons_zero, List.set_cons_succ]
          refine rt_free 2 (v := ?_) rfl (by kernel_rfl) (by kernel_rfl) (by kernel_rfl) (by kernel_rfl) (fun _ _ _ h => h) (by rfl) (fun _ => by first | assumption | exact HS0 _ rfl) ?_ ?_
          rotate_left 1
          · intro w; go_simp <;> with_reducible rfl
          try simp only [Act.put, List.setIfInBounds_toArray, List.set_cons_zero, List.set_cons_succ]
          refine rt_free 3 (v := ?_) rfl (by kernel_rfl) (by kernel_rfl) (by kernel_rfl) (by kernel_rfl) (fun _ _ _ h => h) (by rfl) (fun _ => by first | assumption | exact HS0 _ rfl) ?_ ?_
          rotate_left 1
          · intro w; go_simp <;> with_reducible rfl
          try simp only [Act.put, List.setIfInBounds_toArray, List.set_cons_zero, List.set_cons_succ]
          refine rt_free 4 (v := ?_) rfl (by kernel_rfl) (by kernel_rfl) (by kernel_rfl) (by kernel_rfl) (fun _ _ _ h => h) (by rfl) (fun _ => by first | assumption | exact HS0 _ rfl) ?_ ?_
          rotate_left 1
          · intro w; go_simp <;> with_reducible rfl
          try simp only [Act.put, List.setIfInBounds_toArray, List.set_cons_zero, List.set_cons_succ]
          refine rt_free 5 (v := ?_) rfl (by kernel_rfl) (by kernel_rfl) (by kernel_rfl) (by kernel_rfl) (fun _ _ _ h => h) (by rfl) (fun _ => by first | assumption | exact HS0 _ rfl) ?_ ?_
          rotate_left 1
          · intro w; go_simp <;> with_reducible rfl
          try simp only [Act.put, List.setIfInBounds_toArray, List.set_cons_zero, List.set_cons_succ]
          refine rt_free 6 (v := ?_) rfl (by kernel_rfl) (by kernel_rfl) (by kernel_rfl) (by kernel_rfl) (fun _ _ _ h => h) (by rfl) (fun _ => by first | assumption | exact HS0 _ rfl) ?_ ?_
          rotate_left 1
          · intro w; go_simp <;> with_reducible rfl
          try simp only [Act.put, List.setIfInBounds_toArray, List.set_cons_zero, List.set_cons_succ]
          refine rt_take 7 (v := ?_) rfl (by kernel_rfl) (by kernel_rfl) (by kernel_rfl) (by kernel_rfl) (fun _ _ _ h => h) (by rfl) (by first | assumption | exact HS0 _ rfl) ?_ ?_
          rotate_left 1
          · intro w hSw; go_simp <;> with_reducible rfl
          try simp only [Act.put, List.setIfInBounds_toArray, List.set_cons_zero, List.set_cons_succ]
          refine rt_free 8 (v := ?_) rfl (by kernel_rfl) (by kernel_rfl) (by kernel_rfl) (by kernel_rfl) (fun _ _ _ h => h) (by rfl) (fun _ => by first | assumption | exact HS0 _ rfl) ?_ ?_
          rotate_left 1
          · intro w; go_simp <;> with_reducible rfl
          try simp only [Act.put, List.setIfInBounds_toArray, List.set_cons_zero, List.set_cons_succ]
          refine rt_free 9 (v := ?_) rfl (by kernel_rfl) (by kernel_rfl) (by kernel_rfl) (by kernel_rfl) (fun _ _ _ h => h) (by rfl) (fun _ => by first | assumption | exact HS0 _ rfl) ?_ ?_
          rotate_left 1
          · intro w; go_simp <;> with_reducible rfl
          try simp only [Act.put, List.setIfInBounds_toArray, List.set_cons_zero, List.set_cons_succ]
          refine rt_free 10 (v := ?_) rfl (by kernel_rfl) (by kernel_rfl) (by kernel_rfl) (by kernel_rfl) (fun _ _ _ h => h) (by rfl) (fun _ => by first | assumption | exact HS0 _ rfl) ?_ ?_
          rotate_left 1
          · intro w; go_simp <;> with_reducible rfl
          try simp only [Act.put, List.setIfInBounds_toArray, List.set_cons_zero, List.set_cons_succ]
          refine rt_take 11 (v := ?_) rfl (by kernel_rfl) (by kernel_rfl) (by kernel_rfl) (by kernel_rfl) (fun _ _ _ h => h) (by rfl) (by first | assumption | exact HS0 _ rfl) ?_ ?_
          rotate_left 1
          · intro w hSw; go_simp <;> with_reducible rfl
          try simp only [Act.put, List.setIfInBounds_toArray, List.set_cons_zero, List.set_cons_succ]
          refine rt_free 12 (v := ?_) rfl (by kernel_rfl) (by kernel_rfl) (by kernel_rfl) (by kernel_rfl) (fun _ _ _ h => h) (by rfl) (fun _ => by first | assumption | exact HS0 _ rfl) ?_ ?_
          rotate_left 1
          · intro w; go_simp <;> with_reducible rfl
          try simp only [Act.put, List.setIfInBounds_toArray, List.set_cons_zero, List.set_cons_succ]
          refine rt_one 13 rfl (by kernel_rfl) (fun K hK => ?_)
          go_simp
          have hB2 := HB'.out.set_ (q2 + 1) (ix s t)
          obtain ⟨z1, zf1⟩ := hB2.cell (i := t) (by rw [List.length_set]; exact HL2.out)
          have HB2 := Lib.hid hB2
          clear hB2
          refine hK.out (At St) _ _ (fun _ h => h) (late_abs (by kernel_rfl)) ?_
          clear hK K
          try simp only [Act.put, List.setIfInBounds_toArray, List.set_cons_zero, List.set_cons_succ]
          refine rt_free 14 (v := ?_) rfl (by kernel_rfl) (by kernel_rfl) (by kernel_rfl) (by kernel_rfl) (fun _ _ _ h => h) (by rfl) (late_abs (by kernel_rfl)) ?_ ?_
          rotate_left 1
          · intro w; go_simp <;> with_reducible rfl
          try simp only [Act.put, List.setIfInBounds_toArray, List.set_cons_zero, List.set_cons_succ]
          refine rt_one 15 rfl (by kernel_rfl) (fun K hK => ?_)
          go_simp
          refine hK.out (At St) _ _ (fun _ h => h) (late_abs (by kernel_rfl)) ?_
          clear hK K
          try simp only [Act.put, List.setIfInBounds_toArray, List.set_cons_zero, List.set_cons_succ]
          refine rt_done (by kernel_rfl) ?_
          clear HS0 k0 k1 s0 s1 sf0 sf1 z1 zf1
          go_wp2_with fail
          go_roundw
          case rel => exact ⟨q2 + 1, y, swapR s (q2 + 1) t, by omega, by go_num, HY.out, rfl, (HB2.out.set_ t (ix s (q2 + 1))).drew, by rw [swapR_len]; exact HL'.out, H1.out, H2.out, ((HG'.out.setCell (p := ⟨g, q2 + 1, none⟩) (.inr (by have := hg.out; simp; omega)) _).setCell (p := ⟨g, t, none⟩) (.inr (by have := hg.out; simp; omega)) _).drew⟩
          case measure => simp [intOf]; omega
end Go.Proofs.Ytjaajfpnpijacaa
