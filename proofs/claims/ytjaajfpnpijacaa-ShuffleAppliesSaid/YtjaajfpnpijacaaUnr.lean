/- The order of a number: what Unrank makes. -/
import Derived.Test.YtjaajfpnpijacaaPerm
import Derived.Test.YtjaajfpnpijacaaCopy
import Derived.Test.YtjaajfpnpijacaaBi
import Derived.ScopeJumps
import Derived.WalkMore
set_option linter.unusedVariables false
set_option linter.unusedSimpArgs false
namespace Go.Proofs.Ytjaajfpnpijacaa
open Go.RowKit
open Go.Proofs.YtjaajfpnpijacaaW.PrintWords

abbrev uK : Kd Int := Kd.int .u64
theorem info_u64 : (Try.prog.info? 22).map (fun i => (i.zero, i.size, i.bytes)) = some (some (.int .u64 0), 1, 8) := by kernel_rfl
/-- The digits of a number, to the bases 1, 2, .. -/
def dig (k m : Nat) : Nat := k / facR m % (m + 1)
def digL (k j : Nat) : List Int := (List.range j).map fun (m : Nat) => ((dig k m : Nat) : Int)
theorem digL_succ (k j : Nat) : digL k (j + 1) = digL k j ++ [((dig k j : Nat) : Int)] := by simp [digL, List.range_succ]
theorem digL_len (k j : Nat) : (digL k j).length = j := by simp [digL]
theorem digL_ix {k j m : Nat} (h : m < j) : ix (digL k j) m = ((dig k m : Nat) : Int) := by
  unfold ix digL
  rw [List.getD_eq_getElem?_getD, List.getElem?_map, List.getElem?_range h]
  rfl
theorem dig_lt (k m : Nat) : dig k m < m + 1 := Nat.mod_lt _ (Nat.succ_pos m)
theorem div_step (k j : Nat) : k / facR j / (j + 1) = k / facR (j + 1) := by rw [Nat.div_div_eq_div_mul, facR, Nat.mul_comm]
theorem take_erase {cells : List Int} {d q : Nat} (hd : d ≤ q) (hq : q < cells.length) (rest : List Int) : (cells.take d ++ (cells.drop (d + 1)).take (q - d) ++ rest).take q = (cells.take (q + 1)).eraseIdx d := by
  have hl : (cells.take d ++ (cells.drop (d + 1)).take (q - d)).length = q := by
    simp only [List.length_append, List.length_take, List.length_drop]; omega
  rw [List.take_append_of_le_length (by omega), List.take_of_length_le (by omega), List.eraseIdx_eq_take_drop_succ, List.take_take, List.drop_take, show min d (q + 1) = d by omega, show q + 1 - (d + 1) = q - d by omega]
theorem unrL_succ (j : Nat) (l : List Int) (k : Nat) : unrL (j + 1) l k = ix l (dig k j) :: unrL j (l.eraseIdx (dig k j)) k := rfl
set_option maxRecDepth 100000 in
set_option maxHeartbeats 4000000 in
theorem shuf_unrank_arg (n : Int) (k : Nat) (w : World) (hn : n < 0 ∨ 20 < n) : Calls Try.prog 11 #[.int .i64 n, .int .u64 k] w fun r w' => r = .returned (.tuple #[.slice none 0 0, .int .i64 1]) ∧ w = w' := by
  rcases Int.lt_or_le n 0 with h | h
  · have t1 : decide (n < 0) = true := decide_eq_true h
    go_enter Try.func11, Try.ntmps11
    go_wp2
    go_step3
    go_wp2
    rw [Exit.noGoto_ret]
    go_ret2
    exact ⟨rfl, rfl⟩
  · have t1 : decide (n < 0) = false := decide_eq_false (by omega)
    have t2 : decide (20 < n) = true := decide_eq_true (by omega)
    go_enter Try.func11, Try.ntmps11
    go_wp2
    go_step3
    go_wp2
    rw [Exit.noGoto_ret]
    go_ret2
    exact ⟨rfl, rfl⟩
/-- One number taken out of what is left: copy(left[d:], left[d+1:]). -/
theorem copy_left {w : World} {g n : Nat} {cells : List Int} (hB : IntsAt w g cells) (hl : cells.length = n) {d q : Nat} (hd : d ≤ q) (hq : q < n) (ty : TypeId) (ad : Option Addr) (had : ad = if n = d + 1 then some ⟨g, 0, none⟩ else some ⟨g, d + 1, none⟩) :
    ∃ w', (Builtin.copy_ #[24, 24] ty #[.slice (some ⟨g, d, none⟩) (q + 1 - d) (n - d), .slice ad (q - d) (n - (d + 1))]).run Try.prog w = .ok (.int .i64 ((q - d : Nat) : Int)) w' ∧
      IntsAt w' g (cells.take d ++ (cells.drop (d + 1)).take (q - d) ++ cells.drop q) ∧ Fr (· = g) w w' := by
  obtain ⟨ad', rfl⟩ : ∃ x, ad = some x := by split at had <;> exact ⟨_, had⟩
  have hcl : (((cells.drop (d + 1)).take (q - d)).map (Value.int .i64)).length = q - d := by
    simp only [List.length_map, List.length_take, List.length_drop]; omega
  have hmin : Nat.min (q - d) (q + 1 - d) = q - d := Nat.min_eq_left (by omega)
  have hrun := run_copy_any (P := Try.prog) w 24 24 ty 3 g d (q + 1 - d) (n - d) ad' (q - d) (n - (d + 1)) 1 (cells.map (Value.int .i64)).toArray 3 (((cells.drop (d + 1)).take (q - d)).map (Value.int .i64)) Try.underlying24 (by kernel_rfl) hB (by rw [hcl, hmin, Nat.mul_one])
    (fun j v hv => by
      have hj : j < q - d := by rw [← hcl]; exact (List.getElem?_eq_some_iff.1 hv).1
      rw [if_neg (show ¬ n = d + 1 by omega)] at had
      injection had with had
      subst had
      rw [add_at]
      rw [List.getElem?_map, List.getElem?_take, if_pos hj, List.getElem?_drop, ix_get (by omega)] at hv
      injection hv with hv
      rw [← hv]
      exact (hB.cell (by omega)).1)
    (by rw [hcl]; simp; omega) (fun v hv => by obtain ⟨x, _, rfl⟩ := List.mem_map.1 hv; rfl)
  rw [hmin] at hrun
  refine ⟨_, hrun, ?_, (Fr.refl (fun x => x = g) w).setRow (.inl rfl) _⟩
  have := setRow_heap w g (cells.map (Value.int .i64)).toArray ((cells.map (Value.int .i64)).toArray.toList.take d ++ (((cells.drop (d + 1)).take (q - d)).map (Value.int .i64)) ++ (cells.map (Value.int .i64)).toArray.toList.drop (d + (((cells.drop (d + 1)).take (q - d)).map (Value.int .i64)).length)).toArray 3 (0, 0) hB
  rw [hcl, show d + (q - d) = q by omega] at this
  rw [hcl, show d + (q - d) = q by omega]
  unfold IntsAt Blk
  rw [this]
  simp only [List.map_append, List.map_take, List.map_drop]
/-- What holds at the label. -/
def LabJ (w : World) (n k : Nat) (a' : Act) (w' : World) : Prop := ∃ (j kj : Nat) (v : Value) (us : Nat → Value), kj = k / facR j ∧ a' = { tmps := #[.int .i64 n, .int .u64 (kj : Int), us 2, us 3, .slice none 0 0, .int .i64 0, v, .int .i64 ((j : Int) + 1), us 8, us 9, us 10, us 11, us 12, us 13, us 14, us 15, us 16, us 17, us 18, us 19, us 20, us 21, us 22, us 23, us 24, us 25, us 26, us 27, us 28, us 29, us 30, us 31, us 32, us 33, us 34, us 35, us 36, us 37, us 38, us 39, us 40, us 41, us 42, us 43, us 44, us 45, us 46, us 47, us 48, us 49, us 50, us 51, us 52, us 53, us 54, us 55, us 56, us 57, us 58, us 59, us 60, us 61, us 62, us 63, us 64, us 65, us 66, us 67, us 68, us 69, us 70, us 71, us 72, us 73, us 74, us 75, us 76, us 77, us 78, us 79, us 80, us 81, us 82, us 83, us 84, us 85, us 86, us 87, us 88, us 89, us 90, us 91, us 92, us 93, us 94], defers := [] } ∧ j ≤ n ∧ uK.R 22 w' w.heap.size (fun _ => True) v (digL k j) ∧ Fr (fun _ => False) w w'
theorem labJ_mk {w w' : World} {n k : Nat} {T : Array Value} (j kj : Nat) (v : Value) (hkj : kj = k / facR j) (hT : T = #[T.getD 0 undef, T.getD 1 undef, T.getD 2 undef, T.getD 3 undef, T.getD 4 undef, T.getD 5 undef, T.getD 6 undef, T.getD 7 undef, T.getD 8 undef, T.getD 9 undef, T.getD 10 undef, T.getD 11 undef, T.getD 12 undef, T.getD 13 undef, T.getD 14 undef, T.getD 15 undef, T.getD 16 undef, T.getD 17 undef, T.getD 18 undef, T.getD 19 undef, T.getD 20 undef, T.getD 21 undef, T.getD 22 undef, T.getD 23 undef, T.getD 24 undef, T.getD 25 undef, T.getD 26 undef, T.getD 27 undef, T.getD 28 undef, T.getD 29 undef, T.getD 30 undef, T.getD 31 undef, T.getD 32 undef, T.getD 33 undef, T.getD 34 undef, T.getD 35 undef, T.getD 36 undef, T.getD 37 undef, T.getD 38 undef, T.getD 39 undef, T.getD 40 undef, T.getD 41 undef, T.getD 42 undef, T.getD 43 undef, T.getD 44 undef, T.getD 45 undef, T.getD 46 undef, T.getD 47 undef, T.getD 48 undef, T.getD 49 undef, T.getD 50 undef, T.getD 51 undef, T.getD 52 undef, T.getD 53 undef, T.getD 54 undef, T.getD 55 undef, T.getD 56 undef, T.getD 57 undef, T.getD 58 undef, T.getD 59 undef, T.getD 60 undef, T.getD 61 undef, T.getD 62 undef, T.getD 63 undef, T.getD 64 undef, T.getD 65 undef, T.getD 66 undef, T.getD 67 undef, T.getD 68 undef, T.getD 69 undef, T.getD 70 undef, T.getD 71 undef, T.getD 72 undef, T.getD 73 undef, T.getD 74 undef, T.getD 75 undef, T.getD 76 undef, T.getD 77 undef, T.getD 78 undef, T.getD 79 undef, T.getD 80 undef, T.getD 81 undef, T.getD 82 undef, T.getD 83 undef, T.getD 84 undef, T.getD 85 undef, T.getD 86 undef, T.getD 87 undef, T.getD 88 undef, T.getD 89 undef, T.getD 90 undef, T.getD 91 undef, T.getD 92 undef, T.getD 93 undef, T.getD 94 undef]) (h0 : T.getD 0 undef = .int .i64 n) (h1 : T.getD 1 undef = .int .u64 (kj : Int)) (h4 : T.getD 4 undef = .slice none 0 0) (h5 : T.getD 5 undef = .int .i64 0) (h6 : T.getD 6 undef = v)
    (h7 : T.getD 7 undef = .int .i64 ((j : Int) + 1)) (hj : j ≤ n) (hR : uK.R 22 w' w.heap.size (fun _ => True) v (digL k j)) (hF : Fr (fun _ => False) w w') : LabJ w n k { tmps := T, defers := [] } w' :=
  ⟨j, kj, v, fun i => T.getD i undef, hkj, by simp only []; rw [← h0, ← h1, ← h4, ← h5, ← h6, ← h7, ← hT], hj, hR, hF⟩
/-- What Unrank tells. -/
def UnrTells (w : World) (n k : Nat) (r : Ending) (w' : World) : Prop :=
  (k < facR n ∧ ∃ A c, r = .returned (.tuple #[.slice A n c, .int .i64 0]) ∧ n ≤ c ∧ intK.C w' A n (unrL n (upto n) k) ∧ Fr (fun _ => False) w w') ∨
  (facR n ≤ k ∧ r = .returned (.tuple #[.slice none 0 0, .int .i64 20]) ∧ Fr (fun _ => False) w w')
set_option maxRecDepth 100000 in
set_option maxHeartbeats 4000000 in
theorem shuf_unrank (n k : Nat) (w : World) (hn : n ≤ 20) (hk : k < 18446744073709551616) (h1 : 1 ≤ n) : Calls Try.prog 11 #[.int .i64 n, .int .u64 k] w (UnrTells w n k) := by
  have hu : ∀ m : Nat, m ≤ 100 → IntKind.u64.wrap (m : Int) = (m : Int) := fun m h => u64_in (by omega)
  have HU := Lib.hid hu
  have HK := Lib.hid hk
  clear hk hu
  go_enter Try.func11, Try.ntmps11
  go_wp2
  refine wp_scope_jumps 0 (LabJ w n k) (fun a' _ => n + 2 - (intOf (a'.tmps.getD 7 undef)).toNat) rfl ?_ ?_
  · go_wp2
    go_step3
    go_wp2_with (at_builtin; refine Kd.R_append uK w.heap.size rfl (.tmp 22) (.tmp 27) 49 22 _ 8 rfl Try.underlying49 info_u64 rfl (by decide) (by decide) (.slice none 0 0) [] 0 [.int .u64 0] (fun _ => True) (fun _ => False) (by rfl) (by rfl) rfl (fun _ h => h.elim) (fun _ _ => trivial) (Kd.R_nil _ _ _ _ _) (Below.refl _ _) (Nat.le_refl _) (by simp) ?_; intro v1 w1 hR1 hB1 hg1 hat1; have HR1 := Lib.hid hR1; have HB1 := Lib.hid hB1; clear hR1 hB1 hg1 hat1)
    go_step3
    refine ⟨rfl, labJ_mk 1 k v1 (by simp [facR]) rfl rfl ?_ rfl rfl rfl rfl h1 ?_ (Fr.of_below HB1.out)⟩
    · show Value.int .u64 (IntKind.u64.wrap (k : Int)) = _
      rw [u64_in HK.out]
    · have := HR1.out
      simpa [digL, dig, facR, Nat.mod_one] using this
  · rintro a' w' ⟨j, kj, v, us, hkj, rfl, hj, hR, hF⟩
    have HR := Lib.hid hR
    have HF := Lib.hid hF
    have HKJ := Lib.hid hkj
    clear hR hF
    have b20 : (j : Int) ≤ 20 := by omega
    rcases Nat.lt_or_ge j n with hlt | hge
    · have e1 : (kj : Int).tmod ((j : Int) + 1) = ((dig k j : Nat) : Int) := by
        rw [show (j : Int) + 1 = ((j + 1 : Nat) : Int) by omega, Int.tmod_eq_emod_of_nonneg (by omega), ← Int.natCast_emod, hkj]
        rfl
      have e2 : IntKind.u64.wrap ((kj : Int) / ((j : Int) + 1)) = ((k / facR (j + 1) : Nat) : Int) := by
        rw [show (j : Int) + 1 = ((j + 1 : Nat) : Int) by omega, ← Int.natCast_ediv, hkj, div_step]
        exact u64_in (Nat.lt_of_le_of_lt (Nat.div_le_self _ _) HK.out)
      have e3 : IntKind.u64.wrap ((j : Int) + 1) = (j : Int) + 1 := by rw [show (j : Int) + 1 = ((j + 1 : Nat) : Int) by omega]; exact HU.out _ (by omega)
      have E2 := Lib.hid e2
      clear e2 hkj
      go_wp2_with (at_builtin; refine Kd.R_append uK w.heap.size rfl (.tmp 22) (.tmp 27) 49 22 _ 8 rfl Try.underlying49 info_u64 rfl (by decide) (by decide) v (digL k j) ((dig k j : Nat) : Int) [.int .u64 ((dig k j : Nat) : Int)] (fun _ => True) (fun _ => False) (by rfl) (by rfl) rfl (fun _ h => h.elim) (fun _ _ => trivial) HR.out (Below.refl _ _) HF.out.size (by rw [digL_len]; omega) ?_; intro v1 w1 hR1 hB1 hg1 hat1; have HR1 := Lib.hid hR1; have HG1 := Lib.hid hg1; clear hR1 hB1 hg1 hat1)
      go_step3
      refine ⟨rfl, labJ_mk (j + 1) (k / facR (j + 1)) v1 rfl rfl rfl ?_ rfl rfl rfl ?_ hlt ?_ ?_, ?_⟩
      · show Value.int .u64 _ = _
        rw [E2.out]
      · show Value.int .i64 _ = _
        go_num
      · rw [digL_succ]; exact HR1.out
      · exact HF.out.trans' (Fr.of_grown ⟨HG1.out.os, HG1.out.tape, HG1.out.output, HG1.out.size, HG1.out.block⟩) (fun i hi h => by have := Kd.R_base HR.out i h.symm; omega)
      · simp [intOf]; omega
    · obtain rfl : n = j := by omega
      clear hge
      rcases Nat.eq_zero_or_pos kj with h0 | hpos
      · have t1 : decide (0 < kj) = false := decide_eq_false (by omega)
        have tnn : 0 < n := h1
        have tz : k < facR n := by
          rcases Nat.lt_or_ge k (facR n) with h | h
          · exact h
          · have := Nat.div_pos h (facR_pos n)
            omega
        have TZ := Lib.hid tz
        have t21 : decide ((n : Int) + 1 ≤ (n : Int)) = false := decide_eq_false (by omega)
        clear hkj HKJ tz h0
        have hmk := print_make (P := Try.prog) 24 3 .i64 8 Try.underlying24 info_int (by omega) n (by omega)
        have tn : decide ((0 : Int) < (n : Int)) = true := decide_eq_true (by omega)
        have tn2 : ((n : Int) == 0) = false := by simp; omega
        have i1 : IntKind.i64.wrap ((n : Int) - 1) = (n : Int) - 1 := IntWalk.i64_in _ (by omega)
        go_wp2_with fail
        have hB0 := IntsAt.made w' n
        have hFa := (Fr.refl (fun _ => False) w').alloc (.cells (madeCells #[.int .i64 0] n) 3)
        have hR0 := Kd.R_alloc HR.out (.cells (madeCells #[.int .i64 0] n) 3)
        obtain ⟨g, hg⟩ : ∃ g, g = w'.heap.size := ⟨_, rfl⟩
        have hgv : w.heap.size ≤ g := by rw [hg]; exact HF.out.size
        have hvg : some g ≠ v.ownBlock := fun e => by have := Kd.R_lt HR.out g e.symm; omega
        rw [← hg] at hB0 ⊢
        have HGV := Lib.hid hgv
        have HVG := Lib.hid hvg
        have HF1 := Lib.hid (HF.out.trans hFa)
        clear hg hgv hvg hFa
        generalize w'.alloc (.cells (madeCells #[.int .i64 0] n) 3) = w1 at *
        replace HR := Lib.hid hR0
        clear hR0 HF
        obtain ⟨gd, capd, hvd, hbd, hlt, cd, hBD⟩ := Kd.R_form HR.out (by rw [digL_len]; exact h1)
        have hgd : gd ≠ g := fun e => HVG.out (by rw [hvd, e]; rfl)
        have hcd : ∀ m, m < n → cd[m]? = some (.int .u64 ((dig k m : Nat) : Int)) := fun m hm => by
          have h2 := HR.out
          rw [hvd] at h2
          have h3 := (Kd.R_cell (0 : Int) h2 (m : Int) (by omega) (by rw [digL_len]; omega)).1
          rw [Int.toNat_natCast, blk_cell hBD] at h3
          rw [h3]
          show some (Value.int .u64 (ix (digL k n) m)) = _
          rw [digL_ix hm]
        rw [digL_len] at hvd
        have HCD := Lib.hid hcd
        have HBD : Hid (Blk w1 gd 22 cd) := Lib.hid hBD
        have HGD := Lib.hid hgd
        subst hvd
        clear hcd hBD hgd hbd hlt
        go_loopw [53] (fun i wr => ∃ (m : Nat) (s : List Int), m ≤ n ∧ i = .int .i64 m ∧ IntsAt wr g s ∧ s.length = n ∧ (∀ j, j < m → ix s j = j) ∧ Fr (· = g) w1 wr) (fun i _ => n - (intOf i).toNat)
        case atStart => exact ⟨0, _, by omega, rfl, hB0, by simp, fun _ h => by omega, Fr.refl _ _⟩
        case round =>
          clear hB0 hmk
          obtain ⟨m, s, hm, rfl, hB, hl, hP, hG⟩ := hrel
          have HB := Lib.hid hB
          have HL := Lib.hid hl
          have HP := Lib.hid hP
          have HG := Lib.hid hG
          clear hB hl hP hG
          rcases Nat.lt_or_ge m n with hlt | hge
          · obtain ⟨s0, sf⟩ := HB.out.cell (i := m) (by rw [HL.out]; exact hlt)
            go_wp2_with fail
            go_roundw
            case rel => exact ⟨m + 1, s.set m m, by omega, by go_num, HB.out.set_ m m, by rw [List.length_set]; exact HL.out, fun j hj => by
              rw [ix_set (by rw [HL.out]; exact hlt)]
              by_cases e : m = j
              · rw [if_pos e, e]
              · rw [if_neg e]; exact HP.out j (by omega), HG.out.setCell (p := ⟨g, m, none⟩) (.inl rfl) _⟩
            case measure => simp [intOf]; omega
          · obtain rfl : n = m := by omega
            have tk : decide (n < n) = false := by simp
            have hs' : s = upto n := eq_upto HL.out (fun j hj => HP.out j hj)
            subst hs'
            obtain ⟨wo, hwo⟩ : ∃ wo : World, wo = wr := ⟨_, rfl⟩
            subst hwo
            have hmk2 : ∀ W : World, (Instr.makeSlice 24 (.int .i64 0) (.int .i64 n)).run Try.prog W = .ok (.slice (some ⟨W.heap.size, 0, none⟩) 0 n) (W.alloc (.cells (madeCells #[.int .i64 0] n) 3)) := fun W => by
              obtain ⟨i0, hi, hz0, hz1, hz2⟩ := info_parts info_int
              have := run_make (P := Try.prog) (w := W) 24 3 i0 (.int .i64 0) Try.underlying24 hi hz0 .i64 .i64 0 (n : Int) (by omega) (by omega) (by rw [hz2]; omega) (by omega)
              rw [hz1] at this
              simpa [Value.cells] using this
            have hwo := HF1.out.trans' HG.out (fun i hi h => by have := HGV.out; omega)
            have hz := HG.out.size
            have hgw : g < wo.heap.size := HB.out.lt
            have HWO := Lib.hid (hwo.alloc (.cells (madeCells #[.int .i64 0] n) 3))
            have HB1 := Lib.hid (show IntsAt (wo.alloc (.cells (madeCells #[.int .i64 0] n) 3)) g (upto n) from Blk.alloc HB.out _)
            have HBD1 := Lib.hid ((HBD.out.fr HG.out HGD.out).alloc (.cells (madeCells #[.int .i64 0] n) 3))
            have HO1 : Hid (intK.R 3 (wo.alloc (.cells (madeCells #[.int .i64 0] n) 3)) w.heap.size (fun b => b ≠ g) (.slice (some ⟨wo.heap.size, 0, none⟩) 0 n) []) := Lib.hid (Kd.R_of_own (World.ownsRow_made wo (madeCells #[.int .i64 0] n) n hwo.size (by simp [maxLen]; omega) (by simp [size_madeCells])) (fun b hb => by simp [Value.ownBlock] at hb; omega))
            clear hwo hz hgw
            go_wp2_with fail
            go_loopw [8, 10, 11] (fun lv vo jv wr => ∃ (q : Nat) (cells outL : List Int), q ≤ n ∧ jv = .int .i64 ((q : Int) - 1) ∧ lv = .slice (some ⟨g, 0, none⟩) q n ∧ IntsAt wr g cells ∧ cells.length = n ∧ intK.R 3 wr w.heap.size (fun b => b ≠ g) vo outL ∧ outL.length + q = n ∧ outL ++ unrL q (cells.take q) k = unrL n (upto n) k ∧ Blk wr gd 22 cd ∧ Fr (fun _ => False) w wr) (fun _ _ jv _ => (intOf jv + 1).toNat)
            case atStart => exact ⟨n, upto n, [], by omega, rfl, rfl, HB1.out, upto_len n, HO1.out, by simp, by rw [List.nil_append, List.take_of_length_le (by rw [upto_len]; exact Nat.le_refl _)], HBD1.out, HWO.out⟩
            case round =>
              clear hmk2
              obtain ⟨q, cells, outL, hq, rfl, rfl, hB, hl, hO, hol, heq, hBD, hG⟩ := hrel
              have HB' := Lib.hid hB
              have HL' := Lib.hid hl
              have HO' := Lib.hid hO
              have HOL := Lib.hid hol
              have HEQ := Lib.hid heq
              have HBD' := Lib.hid hBD
              have HG' := Lib.hid hG
              clear hB hl hO hol heq hBD hG
              rcases Nat.eq_zero_or_pos q with h0 | hpos
              · have t5 : decide ((0 : Int) ≤ (q : Int) - 1) = false := decide_eq_false (by omega)
                have t6 : decide ((1 : Int) ≤ (q : Int)) = false := decide_eq_false (by omega)
                have H0 := Lib.hid h0
                clear h0
                obtain ⟨A3, c3, rfl⟩ := Kd.R_slice HO'.out
                go_wp2_with fail
                simp only [Exit.jump]
                go_ret2
                have h0 := H0.out
                subst h0
                have hO3 := Kd.R_reads' HO'.out
                have ho : outL = unrL n (upto n) k := by
                  have := HEQ.out
                  rwa [unrL, List.append_nil] at this
                have hol : outL.length = n := by have := HOL.out; omega
                have hc3 := hO3.2.2
                rw [ho, unrL_len] at hc3
                exact .inl ⟨TZ.out, A3, c3, by rw [hol]; rfl, by rw [← hol]; exact hO3.2.1, hc3, HG'.out⟩
              · obtain ⟨q2, rfl⟩ : ∃ q2, q = q2 + 1 := ⟨q - 1, by omega⟩
                have hd := dig_lt k q2
                have hcd := HCD.out q2 (by omega)
                have x0 : wr.cell? ⟨gd, q2, none⟩ = some (.int .u64 ((dig k q2 : Nat) : Int)) := (HBD'.out.cell q2).trans hcd
                obtain ⟨x1, xf1⟩ := HB'.out.cell (i := dig k q2) (by rw [HL'.out]; omega)
                have HUS := Lib.hid (unrL_succ q2 (cells.take (q2 + 1)) k)
                obtain ⟨d, hdd⟩ : ∃ d, d = dig k q2 := ⟨_, rfl⟩
                rw [← hdd] at x0 x1 hd
                have HDD := Lib.hid hdd
                have e1 : wrap64 (d : Int) = (d : Int) := by unfold wrap64; omega
                have t5 : decide ((0 : Int) ≤ ((q2 + 1 : Nat) : Int) - 1) = true := decide_eq_true (by omega)
                have t7 : (((q2 + 1 : Nat) : Int) - 1) = (q2 : Int) := by omega
                have hq2 : q2 < n := hq
                clear hcd hdd
                go_wp2_with (at_builtin; refine Kd.R_append intK w.heap.size rfl (.tmp 74) (.tmp 79) 24 3 _ 8 rfl Try.underlying24 info_int rfl (by decide) (by decide) u10 outL (ix cells d) [.int .i64 (ix cells d)] (fun b => b ≠ g) (fun _ => False) (by rfl) (by rfl) rfl (fun _ h => h.elim) (fun b hb e => by have := HB'.out.lt; omega) HO'.out (Below.refl _ _) HG'.out.size (by have := HOL.out; omega) ?_; intro v1 w2 hR1 hB1 hg1 hat1; have HR1 := Lib.hid hR1; have HG1 := Lib.hid hg1; clear hR1 hB1 hg1 hat1)
                have hF2 : Fr (fun b => some b = u10.ownBlock) wr w2 := Fr.of_grown ⟨HG1.out.os, HG1.out.tape, HG1.out.output, HG1.out.size, HG1.out.block⟩
                have HB2 := Lib.hid (HB'.out.fr hF2 (fun e => HO'.out.1 g e.symm rfl))
                have HBD2 := Lib.hid (HBD'.out.fr hF2 (Kd.R_ne HO'.out HBD'.out (by decide)))
                have HF2 := Lib.hid (HG'.out.trans' hF2 (fun i hi h => by have := Kd.R_base HO'.out i h.symm; omega))
                obtain ⟨i0, hi0, hz0, hz1, hz2⟩ := info_parts info_int
                have hcutA := cut_from (P := Try.prog) 24 3 .i64 Try.underlying24 hi0 1 hz1 (some ⟨g, 0, none⟩) (q2 + 1) n (d : Int) (by omega) (by omega)
                have hcutB := cut_from (P := Try.prog) 24 3 .i64 Try.underlying24 hi0 1 hz1 (some ⟨g, 0, none⟩) (q2 + 1) n ((d : Int) + 1) (by omega) (by omega)
                simp only [Int.toNat_natCast, if_neg (show ¬ n = d by omega), Option.map_some, add_plain, Nat.mul_one] at hcutA
                simp only [show ((d : Int) + 1).toNat = d + 1 by omega, Option.map_some, add_plain, Nat.mul_one] at hcutB
                have hcutC := cut_to (P := Try.prog) 24 3 .i64 Try.underlying24 hi0 (some ⟨g, 0, none⟩) (q2 + 1) n (q2 : Int) (by omega) (by omega) (by omega)
                simp only [Int.toNat_natCast] at hcutC
                obtain ⟨ad, had⟩ : ∃ ad, ad = (if n = d + 1 then some (⟨g, 0, none⟩ : Addr) else some ⟨g, d + 1, none⟩) := ⟨_, rfl⟩
                rw [← had] at hcutB
                rw [show q2 + 1 - (d + 1) = q2 - d by omega] at hcutB
                have i2 : IntKind.i64.wrap ((d : Int) + 1) = (d : Int) + 1 := IntWalk.i64_in _ (by omega)
                have i2' : wrap64 ((d : Int) + 1) = (d : Int) + 1 := by unfold wrap64; omega
                have HAD := Lib.hid had
                have HDQ := Lib.hid (show d ≤ q2 by omega)
                obtain ⟨St, hSt⟩ : ∃ St : World → Prop, ∀ w', At St w' := ⟨fun _ => True, fun _ => trivial⟩
                have HS0 : ∀ w' : World, w'.heap = w2.heap → At St w' := fun w' _ => hSt w'
                have HST := Lib.hid hSt
                clear hF2 hi0 hz0 hz1 hz2 had hSt x0 x1 xf1
                refine rt_start [] (At St) 8 (by kernel_rfl) rfl ?_
                refine rt_free 0 (v := ?_) rfl (by kernel_rfl) (by kernel_rfl) (by kernel_rfl) (by kernel_rfl) (fun _ _ _ h => h) (by rfl) (fun _ => by first | assumption | exact HS0 _ rfl) ?_ ?_
                rotate_left 1
                · intro w; go_simp <;> with_reducible rfl
                try simp only [Act.put, List.setIfInBounds_toArray, List.set_cons_zero, List.set_cons_succ]
                refine rt_free 1 (v := ?_) rfl (by kernel_rfl) (by kernel_rfl) (by kernel_rfl) (by kernel_rfl) (fun _ _ _ h => h) (by rfl) (fun _ => by first | assumption | exact HS0 _ rfl) ?_ ?_
                rotate_left 1
                · intro w; go_simp <;> with_reducible rfl
                try simp only [Act.put, List.setIfInBounds_toArray, List.set_cons_zero, List.set_cons_succ]
                refine rt_free 2 (v := ?_) rfl (by kernel_rfl) (by kernel_rfl) (by kernel_rfl) (by kernel_rfl) (fun _ _ _ h => h) (by rfl) (fun _ => by first | assumption | exact HS0 _ rfl) ?_ ?_
                rotate_left 1
                · intro w; go_simp <;> with_reducible rfl
                try simp only [Act.put, List.setIfInBounds_toArray, List.set_cons_zero, List.set_cons_succ]
                refine rt_free 3 (v := ?_) rfl (by kernel_rfl) (by kernel_rfl) (by kernel_rfl) (by kernel_rfl) (fun _ _ _ h => h) (by rfl) (fun _ => by first | assumption | exact HS0 _ rfl) ?_ ?_
                rotate_left 1
                · intro w; go_simp <;> with_reducible rfl
                try simp only [Act.put, List.setIfInBounds_toArray, List.set_cons_zero, List.set_cons_succ]
                refine rt_free 4 (v := ?_) rfl (by kernel_rfl) (by kernel_rfl) (by kernel_rfl) (by kernel_rfl) (fun _ _ _ h => h) (by rfl) (fun _ => by first | assumption | exact HS0 _ rfl) ?_ ?_
                rotate_left 1
                · intro w; go_simp <;> with_reducible rfl
                try simp only [Act.put, List.setIfInBounds_toArray, List.set_cons_zero, List.set_cons_succ]
                refine rt_free 5 (v := ?_) rfl (by kernel_rfl) (by kernel_rfl) (by kernel_rfl) (by kernel_rfl) (fun _ _ _ h => h) (by rfl) (fun _ => by first | assumption | exact HS0 _ rfl) ?_ ?_
                rotate_left 1
                · intro w; go_simp <;> with_reducible rfl
                try simp only [Act.put, List.setIfInBounds_toArray, List.set_cons_zero, List.set_cons_succ]
                refine rt_free 6 (v := ?_) rfl (by kernel_rfl) (by kernel_rfl) (by kernel_rfl) (by kernel_rfl) (fun _ _ _ h => h) (by rfl) (fun _ => by first | assumption | exact HS0 _ rfl) ?_ ?_
                rotate_left 1
                · intro w; go_simp <;> with_reducible rfl
                try simp only [Act.put, List.setIfInBounds_toArray, List.set_cons_zero, List.set_cons_succ]
                refine rt_one 7 rfl (by kernel_rfl) (fun K hK => ?_)
                obtain ⟨w3, hc, hB3, hF3⟩ := copy_left HB2.out.drew HL'.out HDQ.out hq2 3 ad HAD.out
                refine step_builtin2 rfl rfl rfl rfl (bi_copy hc) ?_
                have HB3 := Lib.hid hB3
                have HF3 := Lib.hid hF3
                clear hc hB3 hF3
                refine hK.out (At St) _ _ (fun _ h => h) (fun _ => by (exact HST.out _)) ?_
                clear hK K
                try simp only [Act.put, List.setIfInBounds_toArray, List.set_cons_zero, List.set_cons_succ]
                refine rt_done (by kernel_rfl) ?_
                clear HS0
                have hF4 := (Fr.refl (· = g) w2).drew.trans' HF3.out (fun _ _ h => h)
                have HF4 := Lib.hid hF4
                clear hF4
                have hfin : (outL ++ [ix cells d]) ++ unrL q2 ((cells.take d ++ (cells.drop (d + 1)).take (q2 - d) ++ cells.drop q2).take q2) k = unrL n (upto n) k := by
                  rw [take_erase HDQ.out (by rw [HL'.out]; exact hq2), ← HEQ.out, HUS.out, ← HDD.out, List.append_assoc, List.singleton_append]
                  have : ix (cells.take (q2 + 1)) d = ix cells d := by
                    unfold ix
                    rw [List.getD_eq_getElem?_getD, List.getD_eq_getElem?_getD, List.getElem?_take, if_pos (by have := HDQ.out; omega)]
                  rw [this]
                have HFIN := Lib.hid hfin
                have hlen : (cells.take d ++ (cells.drop (d + 1)).take (q2 - d) ++ cells.drop q2).length = n := by
                  have h1 := HL'.out
                  have h2 := HDQ.out
                  simp only [List.length_append, List.length_take, List.length_drop]; omega
                have HLEN := Lib.hid hlen
                clear hfin hlen
                go_wp2_with fail
                go_roundw
                case rel => exact ⟨q2, _, outL ++ [ix cells d], by omega, by first | rfl | go_num | (congr 1; omega), rfl, HB3.out, HLEN.out, Kd.R_step HR1.out (fun b hb hlt => HF4.out.block b hlt hb), by rw [List.length_append]; have := HOL.out; simp; omega, HFIN.out, HBD2.out.fr HF4.out HGD.out, HF2.out.trans' HF4.out (fun i hi h => by have := HGV.out; omega)⟩
                case measure => (simp [intOf]; try omega)
      · have t1 : decide ((0 : Int) < (kj : Int)) = true := decide_eq_true (by omega)
        have tn : decide ((0 : Int) < (n : Int)) = true := decide_eq_true (by omega)
        have t2 : facR n ≤ k := by
          rcases Nat.lt_or_ge k (facR n) with h | h
          · rw [Nat.div_eq_of_lt h] at hkj; omega
          · exact h
        have T2 := Lib.hid t2
        clear t2 hkj
        go_wp2_with fail
        simp only [Exit.jump]
        go_ret2
        exact .inr ⟨T2.out, rfl, HF.out⟩
end Go.Proofs.Ytjaajfpnpijacaa
