/- Writers: equality, rows of them; what fold's Cell, Writers, Results and Prefix tell. -/
import Derived.Test.YtoklncfdhlplkaaFold
import Derived.Deep.QuietTactic
import Derived.BigQuiet
import Derived.WalkMore
set_option linter.unusedVariables false
set_option linter.unusedSimpArgs false
namespace Go.Proofs.Ytoklncfdhlplkaa
open Go.RowKit
open Go.Proofs.YtoklncfdhlplkaaW.PrintWords

abbrev wrV (a : Wr) : Value := .agg #[.int .i64 a.1.1, .int .i64 a.1.2, .int .i64 a.2]
def wrx (L : List Wr) (i : Nat) : Wr := L.getD i ((0, 0), 0)
theorem wrx_eq {L : List Wr} {i : Nat} (h : i < L.length) : wrx L i = L[i] := by unfold wrx; rw [List.getD_eq_getElem?_getD, List.getElem?_eq_getElem h]; rfl
theorem wrx_get {L : List Wr} {i : Nat} (h : i < L.length) : L[i]? = some (wrx L i) := by rw [wrx_eq h, List.getElem?_eq_getElem h]
theorem wrx_mem {L : List Wr} {i : Nat} (h : i < L.length) : wrx L i ∈ L := by rw [wrx_eq h]; exact List.getElem_mem h
theorem wrs_at {w : World} {A : Option Addr} {n : Nat} {L : List Wr} (h : wrK.C w A n L) {i : Nat} (hi : i < n) :
    ∃ b off, A = some ⟨b, off, none⟩ ∧ w.cell? ⟨b, off + i * 3, none⟩ = some (.int .i64 (wrx L i).1.1) ∧ w.cell? ⟨b, off + i * 3 + 1, none⟩ = some (.int .i64 (wrx L i).1.2) ∧ w.cell? ⟨b, off + i * 3 + 1 + 1, none⟩ = some (.int .i64 (wrx L i).2) := by
  obtain ⟨b, off, c, hi', hA, hc, hk, hcell⟩ := C_at h (by decide) hi
  rw [← wrx_eq hi'] at hk
  have hk := wrK_K hk
  subst hk
  have hs : wrK.sz = 3 := rfl
  rw [hs] at hcell
  exact ⟨b, off, hA, hcell 0 _ rfl, hcell 1 _ rfl, hcell 2 _ rfl⟩
theorem eqWr (a b : Wr) (w : World) : (binOp .eql 75 (.agg #[.int .i64 a.1.1, .int .i64 a.1.2, .int .i64 a.2]) (.agg #[.int .i64 b.1.1, .int .i64 b.1.2, .int .i64 b.2])).run Try.prog w = .ok (.bool (decide (a = b))) w := by
  obtain ⟨⟨a1, a2⟩, a3⟩ := a
  obtain ⟨⟨b1, b2⟩, b3⟩ := b
  go_simp
  by_cases h1 : a1 = b1 <;> by_cases h2 : a2 = b2 <;> by_cases h3 : a3 = b3 <;> simp [h1, h2, h3]
theorem neqWr (a b : Wr) (w : World) : (binOp .neq 75 (.agg #[.int .i64 a.1.1, .int .i64 a.1.2, .int .i64 a.2]) (.agg #[.int .i64 b.1.1, .int .i64 b.1.2, .int .i64 b.2])).run Try.prog w = .ok (.bool (!decide (a = b))) w := by
  obtain ⟨⟨a1, a2⟩, a3⟩ := a
  obtain ⟨⟨b1, b2⟩, b3⟩ := b
  go_simp
  by_cases h1 : a1 = b1 <;> by_cases h2 : a2 = b2 <;> by_cases h3 : a3 = b3 <;> simp [h1, h2, h3]
set_option maxHeartbeats 1000000 in
theorem ref_sameLog (A A' : Option Addr) (n c n' c' : Nat) (L L' : List Wr) (w : World) (h : wrK.C w A n L) (h' : wrK.C w A' n' L') (hn : n ≤ 9223372036854775807) (hn' : n' ≤ 9223372036854775807) :
    Calls Try.prog 13 #[.slice A n c, .slice A' n' c'] w fun r w' => r = .returned (.bool (decide (L = L'))) ∧ Fr (fun _ => False) w w' := by
  have hl : L.length = n := h.1
  have hl' : L'.length = n' := h'.1
  have HL := Lib.hid hl
  have HL' := Lib.hid hl'
  have HC := Lib.hid h
  have HC' := Lib.hid h'
  clear hl hl' h h'
  by_cases hnn : n = n'
  · subst hnn
    go_enter Try.func13, Try.ntmps13
    go_wp2
    go_loopw [5] (fun i wr => ∃ k : Nat, k ≤ n ∧ i = .int .i64 k ∧ L.take k = L'.take k ∧ Fr (fun _ => False) w wr) (fun i _ => n - (intOf i).toNat)
    case atStart => exact ⟨0, Nat.zero_le _, rfl, by simp, Fr.refl _ _⟩
    case round =>
      obtain ⟨k, hk, rfl, hno, hG⟩ := hrel
      replace hno := Lib.hid hno
      replace hG := Lib.hid hG
      rcases Nat.lt_or_ge k n with hlt | hge
      · obtain ⟨b, off, rfl, h0, h1, h2⟩ := wrs_at (Kd.C_below HC.out (hG.out.below (fun _ _ h => h))) hlt
        obtain ⟨b', off', rfl, h0', h1', h2'⟩ := wrs_at (Kd.C_below HC'.out (hG.out.below (fun _ _ h => h))) hlt
        have he := neqWr (wrx L k) (wrx L' k)
        have g1 := Lib.hid (wrx_get (L := L) (i := k) (by rw [HL.out]; exact hlt))
        have g2 := Lib.hid (wrx_get (L := L') (i := k) (by rw [HL'.out]; exact hlt))
        by_cases hq : wrx L k = wrx L' k
        · rw [decide_eq_true hq] at he
          simp only [Bool.not_true] at he
          replace hq := Lib.hid hq
          go_wp2
          go_quiet (fail)
          go_wp2
          go_roundw
          case rel => exact ⟨k + 1, by omega, by go_num, by rw [List.take_add_one, List.take_add_one, g1.out, g2.out, hno.out, hq.out], hG.out.drewN _⟩
          case measure => simp [intOf]; omega
        · rw [decide_eq_false hq] at he
          simp only [Bool.not_false] at he
          replace hq := Lib.hid hq
          go_wp2
          go_quiet (fail)
          go_wp2
          go_ret
          refine ⟨ret_bool (decide_eq_false fun e => hq.out ?_).symm, hG.out.drewN _⟩
          rw [e]
      · go_wp2
        go_ret
        refine ⟨ret_bool (decide_eq_true ?_).symm, hG.out⟩
        have := hno.out
        rwa [List.take_of_length_le (by rw [HL.out]; exact hge), List.take_of_length_le (by rw [HL'.out]; exact hge)] at this
  · have t : ((n : Int) == (n' : Int)) = false := by simp; omega
    have t2 : ((n : Int) != (n' : Int)) = true := by simp; omega
    go_enter Try.func13, Try.ntmps13
    go_wp2
    go_ret
    exact ⟨ret_bool (decide_eq_false fun e => hnn (by rw [← HL.out, ← HL'.out, e])).symm, Fr.refl _ _⟩
set_option maxHeartbeats 1000000 in
theorem fold_prefix (A A' : Option Addr) (n c n' c' : Nat) (L L' : List Wr) (w : World) (h : wrK.C w A n L) (h' : wrK.C w A' n' L') (hn : n ≤ 9223372036854775807) (hn' : n' ≤ 9223372036854775807) :
    Calls Try.prog 25 #[.slice A n c, .slice A' n' c'] w fun r w' => r = .returned (.bool (decide (n ≤ n') && decide (L = L'.take n))) ∧ Fr (fun _ => False) w w' := by
  have hl : L.length = n := h.1
  have hl' : L'.length = n' := h'.1
  have HL := Lib.hid hl
  have HL' := Lib.hid hl'
  have HC := Lib.hid h
  have HC' := Lib.hid h'
  clear hl hl' h h'
  by_cases hnn : n ≤ n'
  · have t1 : decide ((n : Int) ≤ (n' : Int)) = true := decide_eq_true (by omega)
    have tn : decide (n ≤ n') = true := decide_eq_true hnn
    rw [tn, Bool.true_and]
    go_enter Try.func25, Try.ntmps25
    go_wp2
    go_step3
    go_wp2
    go_step3
    go_wp2
    go_loopw [5, 14] (fun u i wr => ∃ k : Nat, k ≤ n ∧ i = .int .i64 k ∧ u = .bool true ∧ L.take k = L'.take k ∧ Fr (fun _ => False) w wr) (fun _ i _ => n - (intOf i).toNat)
    case atStart => exact ⟨0, Nat.zero_le _, rfl, rfl, by simp, Fr.refl _ _⟩
    case round =>
      obtain ⟨k, hk, rfl, rfl, hno, hG⟩ := hrel
      replace hno := Lib.hid hno
      replace hG := Lib.hid hG
      rcases Nat.lt_or_ge k n with hlt | hge
      · obtain ⟨b, off, rfl, h0, h1, h2⟩ := wrs_at (Kd.C_below HC.out (hG.out.below (fun _ _ h => h))) hlt
        obtain ⟨b', off', rfl, h0', h1', h2'⟩ := wrs_at (Kd.C_below HC'.out (hG.out.below (fun _ _ h => h))) (Nat.lt_of_lt_of_le hlt hnn)
        have he := neqWr (wrx L k) (wrx L' k)
        have g1 := Lib.hid (wrx_get (L := L) (i := k) (by rw [HL.out]; exact hlt))
        have g2 := Lib.hid (wrx_get (L := L') (i := k) (by rw [HL'.out]; omega))
        have hlt' : k < n' := by omega
        by_cases hq : wrx L k = wrx L' k
        · rw [decide_eq_true hq] at he
          simp only [Bool.not_true] at he
          replace hq := Lib.hid hq
          go_wp2
          go_quiet (fail)
          go_wp2
          go_roundw
          case rel => exact ⟨k + 1, by omega, by go_num, rfl, by rw [List.take_add_one, List.take_add_one, g1.out, g2.out, hno.out, hq.out], hG.out.drewN _⟩
          case measure => simp [intOf]; omega
        · rw [decide_eq_false hq] at he
          simp only [Bool.not_false] at he
          replace hq := Lib.hid hq
          go_wp2
          go_quiet (fail)
          go_wp2
          try rw [Exit.noGoto_ret]
          go_ret
          refine ⟨ret_bool (decide_eq_false fun e => hq.out ?_).symm, hG.out.drewN _⟩
          have e1 : L[k]? = (L'.take n)[k]? := congrArg (fun l : List Wr => l[k]?) e
          rw [g1.out, List.getElem?_take, if_pos hlt, g2.out] at e1
          exact Option.some.inj e1
      · obtain rfl : n = k := by omega
        have tk : decide (n < n) = false := decide_eq_false (by omega)
        go_wp2
        try rw [Exit.noGoto_ret]
        go_ret
        refine ⟨ret_bool (decide_eq_true ?_).symm, hG.out⟩
        have := hno.out
        rwa [List.take_of_length_le (by rw [HL.out]; exact Nat.le_refl _)] at this
  · have t1 : decide ((n : Int) ≤ (n' : Int)) = false := decide_eq_false (by omega)
    have tn : decide (n ≤ n') = false := decide_eq_false hnn
    rw [tn, Bool.false_and]
    have hp : 0 < n := by omega
    go_enter Try.func25, Try.ntmps25
    go_wp2
    go_step3
    go_wp2
    go_step3
    go_wp2
    go_loopw [5, 14] (fun u i wr => i = .int .i64 0 ∧ u = .bool false ∧ Fr (fun _ => False) w wr) (fun _ i _ => 0)
    case atStart => exact ⟨rfl, rfl, Fr.refl _ _⟩
    case round =>
      obtain ⟨rfl, rfl, hG⟩ := hrel
      replace hG := Lib.hid hG
      go_wp2
      go_quiet (fail)
      go_wp2
      try rw [Exit.noGoto_ret]
      go_ret
      exact ⟨rfl, hG.out.drewN _⟩
set_option maxHeartbeats 1000000 in
theorem wrs_index (A : Option Addr) (n c : Nat) (L : List Wr) (a : Wr) (w : World) (h : wrK.C w A n L) (hn : n ≤ 9223372036854775807) :
    Calls Try.prog 54 #[.slice A n c, wrV a] w fun r w' => (∃ k : Nat, r = .returned (.int .i64 k) ∧ a ∈ L ∨ r = .returned (.int .i64 (-1)) ∧ ¬ a ∈ L) ∧ Fr (fun _ => False) w w' := by
  have HL := Lib.hid (show L.length = n from h.1)
  have HC := Lib.hid h
  have hB := Blk.new w 75 #[.int .i64 a.1.1, .int .i64 a.1.2, .int .i64 a.2]
  have HF0 := Lib.hid ((Fr.refl (fun _ => False) w).alloc (.cells #[.int .i64 a.1.1, .int .i64 a.1.2, .int .i64 a.2] 75))
  have HB := Lib.hid hB
  clear h hB
  go_enter Try.func54, Try.ntmps54
  go_wp2
  go_loopw [8] (fun i wr => ∃ k : Nat, k ≤ n ∧ i = .int .i64 k ∧ (∀ j, j < k → wrx L j ≠ a) ∧ Fr (fun _ => False) w wr ∧ Blk wr w.heap.size 75 #[.int .i64 a.1.1, .int .i64 a.1.2, .int .i64 a.2]) (fun i _ => n - (intOf i).toNat)
  case atStart => exact ⟨0, Nat.zero_le _, rfl, fun _ h => by omega, HF0.out, HB.out⟩
  case round =>
    obtain ⟨k, hk, rfl, hno, hG, hB⟩ := hrel
    replace hno := Lib.hid hno
    replace hG := Lib.hid hG
    replace hB := Lib.hid hB
    have z0 := hB.out.cell 0
    have z1 := hB.out.cell 1
    have z2 := hB.out.cell 2
    simp only [List.getElem?_toArray, List.getElem?_cons_zero, List.getElem?_cons_succ] at z0 z1 z2
    rcases Nat.lt_or_ge k n with hlt | hge
    · obtain ⟨b, off, rfl, h0, h1, h2⟩ := wrs_at (Kd.C_below HC.out (hG.out.below (fun _ _ h => h))) hlt
      have he := eqWr a (wrx L k)
      by_cases hq : a = wrx L k
      · rw [decide_eq_true hq] at he
        replace hq := Lib.hid hq
        go_wp2
        go_quiet (fail)
        go_wp2
        go_ret
        exact ⟨⟨k, .inl ⟨rfl, by rw [hq.out]; exact wrx_mem (by rw [HL.out]; exact hlt)⟩⟩, hG.out.drewN _⟩
      · rw [decide_eq_false hq] at he
        replace hq := Lib.hid hq
        go_wp2
        go_quiet (fail)
        go_wp2
        go_roundw
        case rel =>
          refine ⟨k + 1, by omega, by go_num, fun j hj => ?_, hG.out.drewN _, hB.out.drewN _⟩
          rcases Nat.lt_or_ge j k with h | h
          · exact hno.out j h
          · obtain rfl : j = k := by omega
            exact fun e => hq.out e.symm
        case measure => simp [intOf]; omega
    · go_wp2
      go_ret
      refine ⟨⟨0, .inr ⟨rfl, fun hm => ?_⟩⟩, hG.out⟩
      obtain ⟨j, hj, he⟩ := List.mem_iff_getElem.1 hm
      exact hno.out j (by have := HL.out; omega) (by rw [wrx_eq hj]; exact he)
theorem wrs_contains (A : Option Addr) (n c : Nat) (L : List Wr) (a : Wr) (w : World) (h : wrK.C w A n L) (hn : n ≤ 9223372036854775807) :
    Calls Try.prog 42 #[.slice A n c, wrV a] w fun r w' => r = .returned (.bool (decide (a ∈ L))) ∧ Fr (fun _ => False) w w' := by
  have HF0 := Lib.hid ((Fr.refl (fun _ => False) w).alloc (.cells #[.int .i64 a.1.1, .int .i64 a.1.2, .int .i64 a.2] 75))
  have hcx := Lib.hid (wrs_index A n c L a _ (Kd.C_below h (HF0.out.below (fun _ _ h => h))) hn)
  clear h
  go_enter Try.func42, Try.ntmps42
  go_wp2_with fail
  refine hcx.out.mono ?_
  rintro r w2 ⟨⟨k, ⟨rfl, hm⟩ | ⟨rfl, hm⟩⟩, hF2⟩
  · have t1 : decide ((0 : Int) ≤ (k : Int)) = true := decide_eq_true (by omega)
    have HM := Lib.hid hm
    clear hm
    go_wp2_with fail
    go_ret
    exact ⟨ret_bool (decide_eq_true HM.out).symm, HF0.out.trans hF2⟩
  · have HM := Lib.hid hm
    clear hm
    go_wp2_with fail
    go_ret
    exact ⟨ret_bool (decide_eq_false HM.out).symm, HF0.out.trans hF2⟩
theorem fold_cell (A : Option Addr) (n c : Nat) (L : List Item) (key : ByteArray) (w : World) (hC : itemK.C w A n L) (hL : ItemsGood L) (hn : n ≤ 1000) (hk : key.size ≤ maxLen) :
    Calls Try.prog 18 #[.slice A n c, .string key] w fun r w' => r = .returned (cellV (cellOf (runI L).1 key)) ∧ Fr (fun _ => False) w w' := by
  have HF0 := Lib.hid ((Fr.refl (fun _ => False) w).alloc (.cells #[.bool false, .float .f64 0] 40))
  have hB := Blk.new w 40 #[.bool false, .float .f64 0]
  have hcx := Lib.hid (fold_all A n c L _ (Kd.C_below hC (HF0.out.below (fun _ _ h => h))) hL hn)
  obtain ⟨u, hu⟩ : ∃ u, u = cellOf (runI L).1 key := ⟨_, rfl⟩
  rw [← hu]
  have HU := Lib.hid hu
  clear hC hu
  go_enter Try.func18, Try.ntmps18
  go_wp2_with fail
  refine hcx.out.mono ?_
  rintro r w2 ⟨g, S, m, v, rfl, hV, hS, hR, hF2⟩
  have hcy := Lib.hid (vault_get g m S _ key w2 hV hk)
  replace hB := hB.fr hF2 (fun h => h)
  have HF2 := Lib.hid hF2
  clear hV hS hR hF2
  go_wp2_with fail
  refine hcy.out.mono ?_
  rintro r w3 ⟨rfl, hF3⟩
  replace hB := hB.fr hF3 (fun h => h)
  rw [← HU.out]
  have b0 := hB.cell 0
  have b1 := hB.cell 1
  have bf := hB.frozen
  simp only [List.getElem?_toArray, List.getElem?_cons_zero, List.getElem?_cons_succ] at b0 b1
  go_wp2_with fail
  exact bodyPost_ret (results_cell_row Try.results18 _ _ w.heap.size _ _ _ _ rfl (Blk.set2 hB) Try.underlying40 rfl (by kernel_rfl)) rfl ⟨rfl, ((HF0.out.trans HF2.out).trans hF3).set2 (.inr (Nat.le_refl _)) _ _⟩
theorem runI_len {L : List Item} (hL : ItemsGood L) : (runI L).1.length ≤ 8 * L.length ∧ (runI L).2.length ≤ 8 * L.length := by
  have := runI_take hL L.length (Nat.le_refl _)
  rw [List.take_length] at this
  exact this.2
theorem fold_writers (A : Option Addr) (n c : Nat) (L : List Item) (key : ByteArray) (w : World) (hC : itemK.C w A n L) (hL : ItemsGood L) (hn : n ≤ 1000) (hk : key.size ≤ maxLen) :
    Calls Try.prog 19 #[.slice A n c, .string key] w fun r w' => ∃ v, r = .returned v ∧ wrK.R 75 w' w.heap.size (fun b => w.heap.size ≤ b) v (logOf (runI L).1 key) ∧ Fr (fun _ => False) w w' := by
  have hcx := Lib.hid (fold_all A n c L w hC hL hn)
  have hl := (runI_len hL).1
  have hln : L.length = n := hC.1
  clear hC
  go_enter Try.func19, Try.ntmps19
  go_wp2_with fail
  refine hcx.out.mono ?_
  rintro r w2 ⟨g, S, m, v, rfl, hV, hS, hR, hF2⟩
  have hcy := Lib.hid (vault_log g m S _ key w2 hV hk (by omega))
  have HF2 := Lib.hid hF2
  clear hV hS hR hF2 hl hln
  go_wp2_with fail
  refine hcy.out.mono ?_
  rintro r w3 ⟨v, rfl, hR3, hF3⟩
  have HR3 := Lib.hid hR3
  clear hR3
  go_wp2_with fail
  go_ret
  exact ⟨_, rfl, Kd.R_mono (Kd.R_lower HR3.out HF2.out.size) (fun b hb => Nat.le_trans HF2.out.size hb), HF2.out.trans hF3⟩
theorem fold_results (A : Option Addr) (n c : Nat) (L : List Item) (w : World) (hC : itemK.C w A n L) (hL : ItemsGood L) (hn : n ≤ 1000) :
    Calls Try.prog 21 #[.slice A n c] w fun r w' => ∃ v, r = .returned v ∧ resK.R 62 w' w.heap.size (fun b => w.heap.size ≤ b) v (runI L).2 ∧ Fr (fun _ => False) w w' := by
  have hcx := Lib.hid (fold_all A n c L w hC hL hn)
  clear hC
  go_enter Try.func21, Try.ntmps21
  go_wp2_with fail
  refine hcx.out.mono ?_
  rintro r w2 ⟨g, S, m, v, rfl, hV, hS, hR, hF2⟩
  have HR := Lib.hid hR
  clear hV hS hR
  go_wp2_with fail
  go_ret
  exact ⟨_, rfl, Kd.R_mono (Kd.R_bound HR.out) (fun b hb => hb.2.1), hF2⟩
end Go.Proofs.Ytoklncfdhlplkaa
