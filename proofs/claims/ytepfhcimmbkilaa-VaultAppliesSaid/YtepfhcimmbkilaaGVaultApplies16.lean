/- Texts of VaultApplies, merged (16 of 33): Fold, FoldP, VaultE. -/
import Derived.Test.YtepfhcimmbkilaaGVaultApplies15
import Derived.Test.YtepfhcimmbkilaaGVaultApplies10
import Derived.Deep.QuietTactic
import Derived.BigQuiet
import Derived.WalkMore
import Derived.Test.YtepfhcimmbkilaaGVaultApplies14
set_option linter.unusedVariables false
set_option linter.unusedSimpArgs false
/- Items, and what package fold makes of them. -/
namespace Go.Proofs.Ytepfhcimmbkilaa
open Go.RowKit
open Go.Proofs.YtepfhcimmbkilaaW.PrintWords

abbrev Item := (Int × Int) × List Cmd
def itemK : Kd Item := Kd.pair idK (Kd.slice 37 cmdK)
abbrev itemCells (a : Item) (A : Option Addr) (c : Nat) : List Value := [.int .i64 a.1.1, .int .i64 a.1.2, .slice A a.2.length c]
theorem itemK_K {w : World} {a : Item} {c : List Value} (h : itemK.K w a c) : ∃ A cb, c = itemCells a A cb ∧ a.2.length ≤ cb ∧ cmdK.C w A a.2.length a.2 := by
  obtain ⟨c0, c1, rfl, h0, ⟨A, cb, rfl, hl, hC⟩⟩ := h
  rw [idK_K h0]
  exact ⟨A, cb, rfl, hl, hC⟩
def itx (L : List Item) (i : Nat) : Item := L.getD i ((0, 0), [])
theorem itx_eq {L : List Item} {i : Nat} (h : i < L.length) : itx L i = L[i] := by unfold itx; rw [List.getD_eq_getElem?_getD, List.getElem?_eq_getElem h]; rfl
theorem itx_mem {L : List Item} {i : Nat} (h : i < L.length) : itx L i ∈ L := by rw [itx_eq h]; exact List.getElem_mem h
theorem items_at {w : World} {A : Option Addr} {n : Nat} {L : List Item} (h : itemK.C w A n L) {i : Nat} (hi : i < n) :
    ∃ b off Ab cb, A = some ⟨b, off, none⟩ ∧ (itx L i).2.length ≤ cb ∧ cmdK.C w Ab (itx L i).2.length (itx L i).2 ∧ w.cell? ⟨b, off + i * 3, none⟩ = some (.int .i64 (itx L i).1.1) ∧ w.cell? ⟨b, off + i * 3 + 1, none⟩ = some (.int .i64 (itx L i).1.2) ∧
      w.cell? ⟨b, off + i * 3 + 1 + 1, none⟩ = some (.slice Ab (itx L i).2.length cb) := by
  obtain ⟨b, off, c, hi', hA, hc, hk, hcell⟩ := C_at h (by decide) hi
  rw [← itx_eq hi'] at hk
  obtain ⟨Ab, cb, rfl, hl, hC⟩ := itemK_K hk
  have hs : itemK.sz = 3 := rfl
  rw [hs] at hcell
  exact ⟨b, off, Ab, cb, hA, hl, hC, hcell 0 _ rfl, hcell 1 _ rfl, hcell 2 _ rfl⟩
/-- One item more: the history, and what was told. -/
noncomputable def stepI (s : List HE × List Rs) (it : Item) : List HE × List Rs := if errBat it.2 = 0 then (s.1 ++ tagN it.1 it.2 it.2.length, s.2 ++ toldN s.1 it.1 it.2 it.2.length) else s
noncomputable def runI (L : List Item) : List HE × List Rs := L.foldl stepI ([], [])
theorem runI_succ {L : List Item} {k : Nat} (h : k < L.length) : runI (L.take (k + 1)) = stepI (runI (L.take k)) (itx L k) := by
  unfold runI
  rw [List.take_succ_eq_append_getElem h, List.foldl_append, ← itx_eq h]
  rfl
def ItemsGood (L : List Item) : Prop := ∀ it ∈ L, ∀ x ∈ it.2, CmdGood x
theorem stepI_good {s : List HE × List Rs} {it : Item} (hs : HGood s.1) (hi : ∀ x ∈ it.2, CmdGood x) : HGood (stepI s it).1 := by
  unfold stepI
  split
  · exact hs.append (tagN_good (Nat.le_refl _) hi)
  · exact hs
theorem errBat_len {L : List Cmd} (h : errBat L = 0) : L.length ≤ 8 := by
  rcases errBat_cases L with h1 | h1 | h1
  · exact h1.2.1
  · omega
  · omega
theorem stepI_len (s : List HE × List Rs) (it : Item) : (stepI s it).1.length ≤ s.1.length + 8 ∧ (stepI s it).2.length ≤ s.2.length + 8 := by
  unfold stepI
  split
  · rename_i h
    have := errBat_len h
    simp only [List.length_append, tagN_len, toldN_len]
    omega
  · omega
theorem runI_take {L : List Item} (hL : ItemsGood L) : ∀ k, k ≤ L.length → HGood (runI (L.take k)).1 ∧ (runI (L.take k)).1.length ≤ 8 * k ∧ (runI (L.take k)).2.length ≤ 8 * k
  | 0, _ => ⟨fun e he => absurd he (by rw [List.take_zero]; exact List.not_mem_nil), Nat.le_refl _, Nat.le_refl _⟩
  | k + 1, hk => by
    obtain ⟨h1, h2, h3⟩ := runI_take hL k (by omega)
    rw [runI_succ (by omega)]
    have h4 := stepI_len (runI (L.take k)) (itx L k)
    exact ⟨stepI_good h1 (hL _ (itx_mem (by omega))), by omega, by omega⟩
end Go.Proofs.Ytepfhcimmbkilaa
/- Writers: equality, rows of them; what fold's Cell, Writers, Results and Prefix tell. -/
namespace Go.Proofs.Ytepfhcimmbkilaa
open Go.RowKit
open Go.Proofs.YtepfhcimmbkilaaW.PrintWords

abbrev wrV (a : Wr) : Value := .agg #[.int .i64 a.1.1, .int .i64 a.1.2, .int .i64 a.2]
def wrx (L : List Wr) (i : Nat) : Wr := L.getD i ((0, 0), 0)
theorem wrx_eq {L : List Wr} {i : Nat} (h : i < L.length) : wrx L i = L[i] := by unfold wrx; rw [List.getD_eq_getElem?_getD, List.getElem?_eq_getElem h]; rfl
theorem wrx_get {L : List Wr} {i : Nat} (h : i < L.length) : L[i]? = some (wrx L i) := by rw [wrx_eq h, List.getElem?_eq_getElem h]
theorem wrx_mem {L : List Wr} {i : Nat} (h : i < L.length) : wrx L i ∈ L := by rw [wrx_eq h]; exact List.getElem_mem h
theorem wrs_at {w : World} {A : Option Addr} {n : Nat} {L : List Wr} (h : wrK.C w A n L) {i : Nat} (hi : i < n) :
    ∃ b off, A = some ⟨b, off, none⟩ ∧ w.cell? ⟨b, off + i * 3, none⟩ = some (.int .i64 (wrx L i).1.1) ∧ w.cell? ⟨b, off + i * 3 + 1, none⟩ = some (.int .i64 (wrx L i).1.2) ∧ w.cell? ⟨b, off + i * 3 + 1 + 1, none⟩ = some (.int .i64 (wrx L i).2) := by
  obtain ⟨b, off, c, hi', hA, hc, hk, hcell⟩ := C_at h (by decide) hi
  rw [← wrx_eq hi'] at hk
  have hk := wrK_K hk
  subst hk
  have hs : wrK.sz = 3 := rfl
  rw [hs] at hcell
  exact ⟨b, off, hA, hcell 0 _ rfl, hcell 1 _ rfl, hcell 2 _ rfl⟩
theorem eqWr (a b : Wr) (w : World) : (binOp .eql 67 (.agg #[.int .i64 a.1.1, .int .i64 a.1.2, .int .i64 a.2]) (.agg #[.int .i64 b.1.1, .int .i64 b.1.2, .int .i64 b.2])).run Try.prog w = .ok (.bool (decide (a = b))) w := by
  obtain ⟨⟨a1, a2⟩, a3⟩ := a
  obtain ⟨⟨b1, b2⟩, b3⟩ := b
  go_simp
  by_cases h1 : a1 = b1 <;> by_cases h2 : a2 = b2 <;> by_cases h3 : a3 = b3 <;> simp [h1, h2, h3]
theorem neqWr (a b : Wr) (w : World) : (binOp .neq 67 (.agg #[.int .i64 a.1.1, .int .i64 a.1.2, .int .i64 a.2]) (.agg #[.int .i64 b.1.1, .int .i64 b.1.2, .int .i64 b.2])).run Try.prog w = .ok (.bool (!decide (a = b))) w := by
  obtain ⟨⟨a1, a2⟩, a3⟩ := a
  obtain ⟨⟨b1, b2⟩, b3⟩ := b
  go_simp
  by_cases h1 : a1 = b1 <;> by_cases h2 : a2 = b2 <;> by_cases h3 : a3 = b3 <;> simp [h1, h2, h3]
set_option maxHeartbeats 1000000 in
theorem ref_sameLog (A A' : Option Addr) (n c n' c' : Nat) (L L' : List Wr) (w : World) (h : wrK.C w A n L) (h' : wrK.C w A' n' L') (hn : n ≤ 9223372036854775807) (hn' : n' ≤ 9223372036854775807) :
    Calls Try.prog 31 #[.slice A n c, .slice A' n' c'] w fun r w' => r = .returned (.bool (decide (L = L'))) ∧ Fr (fun _ => False) w w' := by
  have hl : L.length = n := h.1
  have hl' : L'.length = n' := h'.1
  have HL := Lib.hid hl
  have HL' := Lib.hid hl'
  have HC := Lib.hid h
  have HC' := Lib.hid h'
  clear hl hl' h h'
  by_cases hnn : n = n'
  · subst hnn
    go_enter Try.func31, Try.ntmps31
    go_wp2
    go_loopw [5] (fun i wr => ∃ k : Nat, k ≤ n ∧ i = .int .i64 k ∧ L.take k = L'.take k ∧ Fr (fun _ => False) w wr) (fun i _ => n - (intOf i).toNat)
    case atStart => exact ⟨0, Nat.zero_le _, rfl, by simp, Fr.refl _ _⟩
    case round =>
      obtain ⟨k, hk, rfl, hno, hG⟩ := hrel
      replace hno := Lib.hid hno
      replace hG := Lib.hid hG
      rcases Nat.lt_or_ge k n with hlt | hge
      · obtain ⟨b, off, rfl, h0, h1, h2⟩ := wrs_at (Kd.C_below HC.out (hG.out.below (fun _ _ h => h))) hlt
        obtain ⟨b', off', rfl, h0', h1', h2'⟩ := wrs_at (Kd.C_below HC'.out (hG.out.below (fun _ _ h => h))) hlt
        have he := neqWr (wrx L k) (wrx L' k)
        have g1 := Lib.hid (wrx_get (L := L) (i := k) (by rw [HL.out]; exact hlt))
        have g2 := Lib.hid (wrx_get (L := L') (i := k) (by rw [HL'.out]; exact hlt))
        by_cases hq : wrx L k = wrx L' k
        · rw [decide_eq_true hq] at he
          simp only [Bool.not_true] at he
          replace hq := Lib.hid hq
          go_wp2
          go_quiet (fail)
          go_wp2
          go_roundw
          case rel => exact ⟨k + 1, by omega, by go_num, by rw [List.take_add_one, List.take_add_one, g1.out, g2.out, hno.out, hq.out], hG.out.drewN _⟩
          case measure => simp [intOf]; omega
        · rw [decide_eq_false hq] at he
          simp only [Bool.not_false] at he
          replace hq := Lib.hid hq
          go_wp2
          go_quiet (fail)
          go_wp2
          go_ret
          refine ⟨ret_bool (decide_eq_false fun e => hq.out ?_).symm, hG.out.drewN _⟩
          rw [e]
      · go_wp2
        go_ret
        refine ⟨ret_bool (decide_eq_true ?_).symm, hG.out⟩
        have := hno.out
        rwa [List.take_of_length_le (by rw [HL.out]; exact hge), List.take_of_length_le (by rw [HL'.out]; exact hge)] at this
  · have t : ((n : Int) == (n' : Int)) = false := by simp; omega
    have t2 : ((n : Int) != (n' : Int)) = true := by simp; omega
    go_enter Try.func31, Try.ntmps31
    go_wp2
    go_ret
    exact ⟨ret_bool (decide_eq_false fun e => hnn (by rw [← HL.out, ← HL'.out, e])).symm, Fr.refl _ _⟩
theorem runI_len {L : List Item} (hL : ItemsGood L) : (runI L).1.length ≤ 8 * L.length ∧ (runI L).2.length ≤ 8 * L.length := by
  have := runI_take hL L.length (Nat.le_refl _)
  rw [List.take_length] at this
  exact this.2
end Go.Proofs.Ytepfhcimmbkilaa
/- The writers' logs: equal; within. -/
namespace Go.Proofs.Ytepfhcimmbkilaa
open Go.RowKit
open Go.Proofs.YtepfhcimmbkilaaW.PrintWords

set_option maxHeartbeats 1000000 in
theorem eq_wr (A A' : Option Addr) (n c n' c' : Nat) (L L' : List Wr) (w : World) (h : wrK.C w A n L) (h' : wrK.C w A' n' L') (hn : n ≤ 9223372036854775807) (hn' : n' ≤ 9223372036854775807) :
    Calls Try.prog 56 #[.slice A n c, .slice A' n' c'] w fun r w' => r = .returned (.bool (decide (L = L'))) ∧ Fr (fun _ => False) w w' := by
  have hl : L.length = n := h.1
  have hl' : L'.length = n' := h'.1
  have HL := Lib.hid hl
  have HL' := Lib.hid hl'
  have HC := Lib.hid h
  have HC' := Lib.hid h'
  clear hl hl' h h'
  by_cases hnn : n = n'
  · subst hnn
    go_enter Try.func56, Try.ntmps56
    go_wp2
    go_loopw [5, 13] (fun u i wr => ∃ k : Nat, k ≤ n ∧ i = .int .i64 k ∧ L.take k = L'.take k ∧ Fr (fun _ => False) w wr) (fun _ i _ => n - (intOf i).toNat)
    case atStart => exact ⟨0, Nat.zero_le _, rfl, by simp, Fr.refl _ _⟩
    case round =>
      obtain ⟨k, hk, rfl, hno, hG⟩ := hrel
      replace hno := Lib.hid hno
      replace hG := Lib.hid hG
      rcases Nat.lt_or_ge k n with hlt | hge
      · obtain ⟨b, off, rfl, h0, h1, h2⟩ := wrs_at (Kd.C_below HC.out (hG.out.below (fun _ _ h => h))) hlt
        obtain ⟨b', off', rfl, h0', h1', h2'⟩ := wrs_at (Kd.C_below HC'.out (hG.out.below (fun _ _ h => h))) hlt
        have he := neqWr (wrx L k) (wrx L' k)
        have g1 := Lib.hid (wrx_get (L := L) (i := k) (by rw [HL.out]; exact hlt))
        have g2 := Lib.hid (wrx_get (L := L') (i := k) (by rw [HL'.out]; exact hlt))
        by_cases hq : wrx L k = wrx L' k
        · rw [decide_eq_true hq] at he
          simp only [Bool.not_true] at he
          replace hq := Lib.hid hq
          go_wp2
          go_quiet (fail)
          go_wp2
          go_roundw
          case rel => exact ⟨k + 1, by omega, by go_num, by rw [List.take_add_one, List.take_add_one, g1.out, g2.out, hno.out, hq.out], hG.out.drewN _⟩
          case measure => simp [intOf]; omega
        · rw [decide_eq_false hq] at he
          simp only [Bool.not_false] at he
          replace hq := Lib.hid hq
          go_wp2
          go_quiet (fail)
          go_wp2
          go_ret
          refine ⟨ret_bool (decide_eq_false fun e => hq.out ?_).symm, hG.out.drewN _⟩
          rw [e]
      · go_wp2
        go_ret
        refine ⟨ret_bool (decide_eq_true ?_).symm, hG.out⟩
        have := hno.out
        rwa [List.take_of_length_le (by rw [HL.out]; exact hge), List.take_of_length_le (by rw [HL'.out]; exact hge)] at this
  · have t : ((n : Int) == (n' : Int)) = false := by simp; omega
    have t2 : ((n : Int) != (n' : Int)) = true := by simp; omega
    go_enter Try.func56, Try.ntmps56
    go_wp2
    go_ret
    exact ⟨ret_bool (decide_eq_false fun e => hnn (by rw [← HL.out, ← HL'.out, e])).symm, Fr.refl _ _⟩
theorem logged_ (A A' : Option Addr) (n c n' c' : Nat) (L L' : List Wr) (w : World) (h : wrK.C w A n L) (h' : wrK.C w A' n' L') (hn : n ≤ 9223372036854775807) (hn' : n' ≤ 9223372036854775807) :
    Calls Try.prog 37 #[.slice A n c, .slice A' n' c'] w fun r w' => r = .returned (.bool (decide (L = L'))) ∧ Fr (fun _ => False) w w' := by
  have HC := Lib.hid h
  have HC' := Lib.hid h'
  clear h h'
  go_enter Try.func37, Try.ntmps37
  go_wp2_with fail
  refine (eq_wr A A' n c n' c' L L' w HC.out HC'.out hn hn').mono ?_
  rintro r w2 ⟨rfl, hF2⟩
  have HF2 := Lib.hid hF2
  clear hF2
  go_wp2_with fail
  go_ret
  exact ⟨rfl, HF2.out⟩
set_option maxRecDepth 100000 in
set_option maxHeartbeats 4000000 in
theorem within_log (m1 m2 : Nat) (f1 f2 : ByteArray → Option Hdr) (G1 G2 : ByteArray → List Wr) (S1 S2 : Nat → Prop) (w : World) (h1 : MapIn strE hdrV w m1 f1) (h2 : MapIn strE hdrV w m2 f2) (k1 : LogsAt w S1 f1 G1) (k2 : LogsAt w S2 f2 G2) :
    Calls Try.prog 36 #[.map (some m1), .map (some m2), .func (.func 37) #[] #[]] w fun r w' => r = .returned (.bool (cdec (∀ k, (f1 k).isSome = true → G1 k = G2 k))) ∧ Fr (fun _ => False) w w' := by
  have H1 := Lib.hid h1
  have H2 := Lib.hid h2
  have K1 := Lib.hid k1
  have K2 := Lib.hid k2
  obtain ⟨w0, cnt0, hrange, hit0, hF0, hsz0⟩ := h1.range (t := 60) rfl
  have HI0 := Lib.hid hit0
  have HF0 := Lib.hid hF0
  clear h1 h2 k1 k2 hit0 hF0 hsz0
  go_enter Try.func36, Try.ntmps36
  go_wp2_with fail
  go_loopw [7, 8] (fun u v wr => ∃ (left : ByteArray → Prop) (cnt : Nat), MapIt strE hdrV wr m1 w.heap.size f1 left cnt ∧ (∀ k, (f1 k).isSome = true → ¬ left k → G1 k = G2 k) ∧ Fr (fun _ => False) w wr) (fun _ _ wr => wr.rangeLeft m1 w.heap.size)
  case atStart => exact ⟨_, _, HI0.out, fun k h hn => absurd h hn, HF0.out⟩
  case round =>
    obtain ⟨left, cnt, hit, hdone, hG⟩ := hrel
    have HG := Lib.hid hG
    have HD := Lib.hid hdone
    have HIT := Lib.hid hit
    clear hG hdone
    rcases hit.next 0 with ⟨hno, hnext⟩ | ⟨a, c, w1, cnt1, hok, hla, hfa, hnext, hit1, hlt1, hF1, hsz1, hen⟩
    · have HNO := Lib.hid hno
      clear hit hno
      go_wp2_with fail
      go_ret
      exact ⟨ret_bool (cdec_true fun k h => HD.out k h (HNO.out k)).symm, HG.out⟩
    · have HI1 := Lib.hid hit1
      have HG1 := Lib.hid (HG.out.trans' hF1 (fun i hi h => by omega))
      have HLA := Lib.hid hla
      have HFA := Lib.hid hfa
      have HLT := Lib.hid hlt1
      obtain ⟨A1, n1, c1⟩ := c
      have hr1 := Kd.R_step (K1.out.row a _ hfa) (fun b hb hl => HG1.out.block b hl (fun h => h))
      have hc1 : wrK.C w1 A1 n1 (G1 a) := by
        obtain ⟨A9, c9, h9⟩ := Kd.R_slice hr1
        have h8 := hr1
        rw [h9] at h8
        cases h9
        exact (Kd.R_reads' h8).2.2
      have hz1 : n1 ≤ 9223372036854775807 := hc1.2.1
      have hlk := (H2.out.fr HG1.out (fun h => h)).lookup (t := 60) (et := 57) Try.underlying60 (z := .slice none 0 0) (zero_wrs' _) (a := a) hok
      have hG2 : ∃ A2 n2 c2, (f2 a).elim (.slice none 0 0) hdrV = .slice A2 n2 c2 ∧ wrK.C w1 A2 n2 (G2 a) := by
        cases hf2 : f2 a with
        | none => exact ⟨none, 0, 0, rfl, by rw [K2.out.none_ a hf2]; exact Kd.C_nil wrK _⟩
        | some x =>
          have hr2 := Kd.R_step (K2.out.row a _ hf2) (fun b hb hl => HG1.out.block b hl (fun h => h))
          obtain ⟨A9, c9, h9⟩ := Kd.R_slice hr2
          rw [h9] at hr2
          exact ⟨A9, _, c9, h9, (Kd.R_reads' hr2).2.2⟩
      obtain ⟨A2, n2, c2, he2, hc2⟩ := hG2
      rw [he2] at hlk
      have hz2 : n2 ≤ 9223372036854775807 := hc2.2.1
      replace hlk : (Instr.lookup 60 (.map (some m2)) (.string a) false).run Try.prog w1 = .ok (.slice A2 n2 c2) w1 := hlk
      have HC1 := Lib.hid hc1
      have HC2 := Lib.hid hc2
      clear hit hla hfa hit1 hlt1 hF1 hr1 hc1 hc2 he2
      replace hen : (Instr.entry (.pointer (some ⟨w.heap.size, 0, none⟩))).run Try.prog w1 = .ok (.tuple #[.string a, .slice A1 n1 c1]) w1 := hen
      replace hnext : (Instr.next (.pointer (some ⟨w.heap.size, 0, none⟩)) false 0).run Try.prog wr = .ok (.tuple #[.bool true, .string a, .slice A1 n1 c1]) w1 := hnext
      have HZ := Lib.hid (show n1 ≤ 9223372036854775807 ∧ n2 ≤ 9223372036854775807 from ⟨hz1, hz2⟩)
      clear hz1 hz2
      go_wp2_with fail
      refine (logged_ A1 A2 n1 c1 n2 c2 (G1 a) (G2 a) w1 HC1.out HC2.out HZ.out.1 HZ.out.2).mono ?_
      rintro r w2 ⟨rfl, hF2⟩
      have HG3 := Lib.hid (HG1.out.trans hF2)
      have HI2 := Lib.hid (HI1.out.fr hF2 (fun h => h) (fun h => h))
      clear hF2
      by_cases hq : G1 a = G2 a
      · rw [decide_eq_true hq]
        have HQ := Lib.hid hq
        clear hq
        go_wp2_with fail
        go_roundw
        case rel =>
          refine ⟨_, _, HI2.out, fun k hk hn => ?_, HG3.out⟩
          by_cases hka : k = a
          · subst hka
            exact HQ.out
          · exact HD.out k hk (fun h => hn ⟨h, hka⟩)
        case measure => rw [HI2.out.left_eq, HIT.out.left_eq]; exact HLT.out
      · rw [decide_eq_false hq]
        have HQ := Lib.hid hq
        clear hq
        go_wp2_with fail
        go_ret
        exact ⟨ret_bool (cdec_false fun h => HQ.out (h a (by rw [HFA.out]; rfl))).symm, HG3.out⟩
end Go.Proofs.Ytepfhcimmbkilaa
