/- What just some commands make of a key: cell.Fold, fold.Only. -/
import Derived.Test.YtoklncfdhlplkaaFoldP
set_option linter.unusedVariables false
set_option linter.unusedSimpArgs false
namespace Go.Proofs.Ytoklncfdhlplkaa
open Go.RowKit
open Go.Proofs.YtoklncfdhlplkaaW.PrintWords

noncomputable def foldC (L : List Cmd) : CellD := L.foldl (fun c x => (doC c x).1) (false, 0)
theorem foldC_snoc (L : List Cmd) (x : Cmd) : foldC (L ++ [x]) = (doC (foldC L) x).1 := by unfold foldC; rw [List.foldl_append]; rfl
theorem foldC_canon : ∀ (L : List Cmd) (c : CellD), (∀ x ∈ L, CmdGood x) → CellC c → CellC (L.foldl (fun c x => (doC c x).1) c)
  | [], c, _, hc => hc
  | x :: L, c, hL, hc => foldC_canon L _ (fun y hy => hL y (List.mem_cons_of_mem _ hy)) (doC_canon hc (hL x List.mem_cons_self)).1
theorem foldC_ok {L : List Cmd} (hL : ∀ x ∈ L, CmdGood x) : CellC (foldC L) := foldC_canon L _ hL ⟨cell0_ok, rfl⟩
theorem take_cmx {L : List Cmd} {k : Nat} (h : k < L.length) : L.take (k + 1) = L.take k ++ [cmx L k] := by rw [List.take_succ_eq_append_getElem h, cmx_eq h]
set_option maxHeartbeats 2000000 in
theorem cell_fold (A : Option Addr) (n c : Nat) (L : List Cmd) (w : World) (hC : cmdK.C w A n L) (hL : ∀ x ∈ L, CmdGood x) (hn : n ≤ 9223372036854775807) :
    Calls Try.prog 43 #[.slice A n c] w fun r w' => r = .returned (cellV (foldC L)) ∧ Fr (fun _ => False) w w' := by
  have HLn := Lib.hid (show L.length = n from hC.1)
  have HC := Lib.hid hC
  have HO := Lib.hid hL
  have h2 := (Blk.new w 40 #[.bool false, .float .f64 0]).alloc (.cells #[.bool false, .float .f64 0] 40)
  have h3 := Blk.new (w.alloc (.cells #[.bool false, .float .f64 0] 40)) 40 #[.bool false, .float .f64 0]
  rw [World.size_alloc] at h3
  have hF := ((Fr.refl (fun _ => False) w).alloc (.cells #[.bool false, .float .f64 0] 40)).alloc (.cells #[.bool false, .float .f64 0] 40)
  have H2 := Lib.hid h2
  have H3 := Lib.hid h3
  have HF := Lib.hid hF
  obtain ⟨b2, hb2⟩ : ∃ b, b = w.heap.size := ⟨_, rfl⟩
  have HB2 := Lib.hid hb2
  clear h2 h3 hF hC hL hb2
  go_enter Try.func43, Try.ntmps43
  go_wp2_with fail
  rw [← HB2.out]
  go_loopw [9] (fun i wr => ∃ k : Nat, k ≤ n ∧ i = .int .i64 k ∧ Blk wr b2 40 #[.bool false, .float .f64 0] ∧ Blk wr (b2 + 1) 40 #[.bool (foldC (L.take k)).1, .float .f64 (foldC (L.take k)).2] ∧ Fr (fun _ => False) w wr) (fun i _ => n - (intOf i).toNat)
  case atStart => exact ⟨0, Nat.zero_le _, rfl, by rw [HB2.out]; exact H2.out, by rw [HB2.out]; exact H3.out, HF.out⟩
  case round =>
    obtain ⟨k, hk, rfl, h2, h3, hG⟩ := hrel
    have HG := Lib.hid hG
    have H2r := Lib.hid h2
    have H3r := Lib.hid h3
    rcases Nat.lt_or_ge k n with hlt | hge
    · obtain ⟨b, off, rfl, c0, c1, c2⟩ := cmds_at (Kd.C_below HC.out (HG.out.below (fun _ _ h => h))) hlt
      have hx := Blk.new wr 60 #[.int .i64 (cmx L k).1, .string (cmx L k).2.1, .float .f64 (cmx L k).2.2]
      have hF1 := (Fr.refl (fun _ => False) wr).alloc (.cells #[.int .i64 (cmx L k).1, .string (cmx L k).2.1, .float .f64 (cmx L k).2.2] 60)
      have y0 := (h3.fr hF1 (fun h => h)).cell 0
      have y1 := (h3.fr hF1 (fun h => h)).cell 1
      simp only [List.getElem?_toArray, List.getElem?_cons_zero, List.getElem?_cons_succ] at y0 y1
      have hgd := HO.out _ (cmx_mem (i := k) (by rw [HLn.out]; exact hlt))
      have hcc := foldC_ok (L := L.take k) (fun x hx => HO.out x (List.mem_of_mem_take hx))
      have hsn := foldC_snoc (L.take k) (cmx L k)
      rw [← take_cmx (by rw [HLn.out]; exact hlt)] at hsn
      have HCC := Lib.hid hcc
      have HSN := Lib.hid hsn
      have HF1 := Lib.hid hF1
      have HGD := Lib.hid hgd
      obtain ⟨u, hu⟩ : ∃ u, u = foldC (L.take k) := ⟨_, rfl⟩
      have HU := Lib.hid hu
      rw [← hu] at y0 y1
      clear hcc hsn hF1 hx h2 h3 hG hgd hu
      go_wp2_with fail
      refine (cell_do u (cmx L k) _ (by rw [HU.out]; exact HCC.out.1) HGD.out).mono ?_
      rintro r w2 ⟨rfl, hF2⟩
      rw [show absC u = u from by rw [HU.out]; exact HCC.out.2]
      obtain ⟨d, hd⟩ : ∃ d, d = doC u (cmx L k) := ⟨_, rfl⟩
      rw [← hd]
      have h22 := (H2r.out.fr HF1.out (fun h => h)).fr hF2 (fun h => h)
      have h32 := (H3r.out.fr HF1.out (fun h => h)).fr hF2 (fun h => h)
      have z0 := h32.cell 0
      have z1 := h32.cell 1
      have zf := h32.frozen
      simp only [List.getElem?_toArray, List.getElem?_cons_zero, List.getElem?_cons_succ] at z0 z1
      have HD := Lib.hid hd
      have HF2 := Lib.hid hF2
      have H22 := Lib.hid h22
      have H32 := Lib.hid h32
      clear hd hF2 h22 h32 y0 y1
      go_wp2_with fail
      go_roundw
      case rel =>
        refine ⟨k + 1, by omega, by go_num, H22.out.far2 (by omega) _ _, ?_, ((HG.out.trans HF1.out).trans HF2.out).set2 (.inr (by have := HB2.out; omega)) _ _⟩
        rw [HSN.out, ← HU.out, ← HD.out]
        exact Blk.set2 H32.out
      case measure => simp [intOf]; omega
    · obtain rfl : n = k := by omega
      have tnn : decide (n < n) = false := decide_eq_false (by omega)
      have hl : L.take n = L := by rw [← HLn.out]; exact List.take_length
      rw [hl] at h3
      have z0 := h3.cell 0
      have z1 := h3.cell 1
      have z2 := h2.cell 0
      have z3 := h2.cell 1
      have zf := h2.frozen
      simp only [List.getElem?_toArray, List.getElem?_cons_zero, List.getElem?_cons_succ] at z0 z1 z2 z3
      go_wp2_with fail
      exact bodyPost_ret (results_cell_row Try.results43 _ _ b2 _ _ _ _ rfl (Blk.set2 h2) Try.underlying40 rfl (by kernel_rfl)) rfl ⟨rfl, hG.set2 (.inr (by have := HB2.out; omega)) _ _⟩
def selP (key : ByteArray) (W : List Wr) (id : Int × Int) (L : List Cmd) (i : Nat) : Prop := (cmx L i).2.1 = key ∧ ((id, (i : Int)) : Wr) ∈ W
noncomputable def selN (key : ByteArray) (W : List Wr) (id : Int × Int) (L : List Cmd) : Nat → List Cmd
  | 0 => []
  | k + 1 => selN key W id L k ++ (bif cdec (selP key W id L k) then [cmx L k] else [])
noncomputable def selI (key : ByteArray) (W : List Wr) (L : List Item) : Nat → List Cmd
  | 0 => []
  | k + 1 => selI key W L k ++ (if errBat (itx L k).2 = 0 then selN key W (itx L k).1 (itx L k).2 (itx L k).2.length else [])
theorem selN_good {key : ByteArray} {W : List Wr} {id : Int × Int} {L : List Cmd} (hL : ∀ x ∈ L, CmdGood x) : ∀ k, k ≤ L.length → (∀ x ∈ selN key W id L k, CmdGood x) ∧ (selN key W id L k).length ≤ k
  | 0, _ => ⟨fun x hx => absurd hx List.not_mem_nil, Nat.le_refl _⟩
  | k + 1, hk => by
    obtain ⟨h1, h2⟩ := selN_good (key := key) (W := W) (id := id) hL k (by omega)
    unfold selN
    cases cdec (selP key W id L k)
    · rw [cond_false, List.append_nil]; exact ⟨h1, by omega⟩
    · rw [cond_true]
      refine ⟨fun x hx => ?_, by rw [List.length_append, List.length_singleton]; omega⟩
      rcases List.mem_append.1 hx with hx | hx
      · exact h1 x hx
      · rw [List.mem_singleton.1 hx]; exact hL _ (cmx_mem (by omega))
theorem selI_good {key : ByteArray} {W : List Wr} {L : List Item} (hL : ItemsGood L) : ∀ k, k ≤ L.length → (∀ x ∈ selI key W L k, CmdGood x) ∧ (selI key W L k).length ≤ 8 * k
  | 0, _ => ⟨fun x hx => absurd hx List.not_mem_nil, Nat.le_refl _⟩
  | k + 1, hk => by
    obtain ⟨h1, h2⟩ := selI_good (key := key) (W := W) hL k (by omega)
    unfold selI
    split
    · rename_i he
      have hl := errBat_len he
      obtain ⟨h3, h4⟩ := selN_good (key := key) (W := W) (id := (itx L k).1) (hL _ (itx_mem (i := k) (by omega))) _ (Nat.le_refl _)
      refine ⟨fun x hx => (List.mem_append.1 hx).elim (h1 x) (h3 x), by rw [List.length_append]; omega⟩
    · rw [List.append_nil]; exact ⟨h1, by omega⟩
set_option maxRecDepth 100000 in
set_option maxHeartbeats 4000000 in
theorem fold_only (A B : Option Addr) (n c nw cw : Nat) (L : List Item) (W : List Wr) (key : ByteArray) (w : World) (hC : itemK.C w A n L) (hW : wrK.C w B nw W) (hL : ItemsGood L) (hn : n ≤ 1000) (hnw : nw ≤ 9223372036854775807) :
    Calls Try.prog 23 #[.slice A n c, .string key, .slice B nw cw] w fun r w' => r = .returned (cellV (foldC (selI key W L L.length))) ∧ Fr (fun _ => False) w w' := by
  have HLn := Lib.hid (show L.length = n from hC.1)
  have HC := Lib.hid hC
  have HW := Lib.hid hW
  have HO := Lib.hid hL
  have hb6 := Blk.new w 40 #[.bool false, .float .f64 0]
  have hF := (Fr.refl (fun _ => False) w).alloc (.cells #[.bool false, .float .f64 0] 40)
  have H6 := Lib.hid hb6
  have HF := Lib.hid hF
  obtain ⟨b6, hb⟩ : ∃ b, b = w.heap.size := ⟨_, rfl⟩
  have HB6 := Lib.hid hb
  clear hb6 hF hC hL hW hb
  go_enter Try.func23, Try.ntmps23
  go_wp2_with fail
  rw [← HB6.out]
  go_loopw [7, 14] (fun u i wr => ∃ k : Nat, k ≤ n ∧ i = .int .i64 k ∧ cmdK.R 60 wr w.heap.size (fun b => w.heap.size ≤ b) u (selI key W L k) ∧ Blk wr b6 40 #[.bool false, .float .f64 0] ∧ Fr (fun _ => False) w wr) (fun _ i _ => n - (intOf i).toNat)
  case atStart => exact ⟨0, Nat.zero_le _, rfl, Kd.R_nil _ _ _ _ _, by rw [HB6.out]; exact H6.out, HF.out⟩
  case round =>
    obtain ⟨k, hk, rfl, hR, h6, hG⟩ := hrel
    have HG := Lib.hid hG
    have H6r := Lib.hid h6
    have HR := Lib.hid hR
    clear hG h6 hR
    rcases Nat.lt_or_ge k n with hlt | hge
    · obtain ⟨b, off, Ab, cb, rfl, hcb, hCw, h0w, h1w, h2w⟩ := items_at HC.out hlt
      have h0 := HG.out.cell h0w (fun h => h)
      have h1 := HG.out.cell h1w (fun h => h)
      have h2 := HG.out.cell h2w (fun h => h)
      have HGD := Lib.hid (HO.out _ (itx_mem (i := k) (by rw [HLn.out]; exact hlt)))
      obtain ⟨it, hit⟩ : ∃ it, it = itx L k := ⟨_, rfl⟩
      rw [← hit] at h0 h1 h2 hCw hcb HGD
      have hx := Blk.new wr 80 #[.int .i64 it.1.1, .int .i64 it.1.2, .slice Ab it.2.length cb]
      have hF1 := (Fr.refl (fun _ => False) wr).alloc (.cells #[.int .i64 it.1.1, .int .i64 it.1.2, .slice Ab it.2.length cb] 80)
      have HF1 := Lib.hid hF1
      have HX := Lib.hid hx
      have HCw := Lib.hid hCw
      have HIT := Lib.hid hit
      clear hF1 hx hCw h0w h1w h2w hit
      go_wp2_with fail
      refine (bat_check Ab it.2.length cb it.2 _ (Kd.C_below HCw.out ((HG.out.trans HF1.out).below (fun _ _ h => h))) HGD.out).mono ?_
      rintro r w2 ⟨rfl, hF2⟩
      have hx2 := HX.out.fr hF2 (fun h => h)
      have x0 := hx2.cell 0
      have x1 := hx2.cell 1
      have x2 := hx2.cell 2
      simp only [List.getElem?_toArray, List.getElem?_cons_zero, List.getElem?_cons_succ] at x0 x1 x2
      have hR2 := Kd.R_below HR.out ((HF1.out.trans hF2).below (fun _ _ h => h))
      have h62 := H6r.out.fr (HF1.out.trans hF2) (fun h => h)
      have hG2 := (HG.out.trans HF1.out).trans hF2
      have HR2 := Lib.hid hR2
      have H62 := Lib.hid h62
      have HG2 := Lib.hid hG2
      have HX2 := Lib.hid hx2
      clear hR2 h62 hG2 hx2 h0 h1 h2
      by_cases he : errBat it.2 = 0
      · rw [he]
        have HE := Lib.hid he
        have hl8 := errBat_len he
        have hsl := selI_good (key := key) (W := W) HO.out k (by rw [HLn.out]; omega)
        have HSL := Lib.hid hsl
        clear he hF2 hsl
        go_wp2_with fail
        obtain ⟨b9, hb9⟩ : ∃ b, b = wr.heap.size := ⟨_, rfl⟩
        rw [← hb9] at HX2 x0 x1 x2 ⊢
        have HB9 := Lib.hid hb9
        clear hb9 x0 x1 x2
        go_loopw [7, 25] (fun u i ws => ∃ j : Nat, j ≤ it.2.length ∧ i = .int .i64 j ∧ cmdK.R 60 ws w.heap.size (fun b => w.heap.size ≤ b) u (selI key W L k ++ selN key W it.1 it.2 j) ∧ Blk ws b6 40 #[.bool false, .float .f64 0] ∧ Blk ws b9 80 #[.int .i64 it.1.1, .int .i64 it.1.2, .slice Ab it.2.length cb] ∧ Fr (fun _ => False) w ws) (fun _ i _ => it.2.length - (intOf i).toNat)
        case atStart => exact ⟨0, Nat.zero_le _, rfl, by unfold selN; rw [List.append_nil]; exact HR2.out, H62.out, HX2.out, HG2.out⟩
        case round =>
          obtain ⟨j, hj, rfl, hR, h6, h9, hG⟩ := hrel
          have HGs := Lib.hid hG
          have H6s := Lib.hid h6
          have H9s := Lib.hid h9
          have HRs := Lib.hid hR
          clear hG h6 h9 hR
          rcases Nat.lt_or_ge j it.2.length with hlj | hgj
          · obtain ⟨bb, ob, rfl, c0, c1, c2⟩ := cmds_at (Kd.C_below HCw.out (HGs.out.below (fun _ _ h => h))) hlj
            have hF3 := (Fr.refl (fun _ => False) wr).alloc (.cells #[.int .i64 (cmx it.2 j).1, .string (cmx it.2 j).2.1, .float .f64 (cmx it.2 j).2.2] 60)
            have hc3 := Blk.new wr 60 #[.int .i64 (cmx it.2 j).1, .string (cmx it.2 j).2.1, .float .f64 (cmx it.2 j).2.2]
            have h93 := H9s.out.fr hF3 (fun h => h)
            have x0 := h93.cell 0
            have x1 := h93.cell 1
            have x2 := h93.cell 2
            simp only [List.getElem?_toArray, List.getElem?_cons_zero, List.getElem?_cons_succ] at x0 x1 x2
            have hse := beq_list (a := (cmx it.2 j).2.1) (b := key)
            have HF3 := Lib.hid hF3
            have H93 := Lib.hid h93
            have HC3 := Lib.hid hc3
            clear hF3 h93 hc3
            by_cases hkk : (cmx it.2 j).2.1 = key
            · rw [cdec_true hkk] at hse
              have HKK := Lib.hid hkk
              clear hkk
              go_wp2_with fail
              refine (wrs_contains B nw cw W (it.1, (j : Int)) _ (Kd.C_below HW.out ((HGs.out.trans HF3.out).below (fun _ _ h => h))) hnw).mono ?_
              rintro r w4 ⟨rfl, hF4⟩
              by_cases hm : ((it.1, (j : Int)) : Wr) ∈ W
              · rw [decide_eq_true hm]
                have hsel : selN key W it.1 it.2 (j + 1) = selN key W it.1 it.2 j ++ [cmx it.2 j] := by
                  show _ ++ (bif cdec (selP key W it.1 it.2 j) then _ else _) = _
                  rw [cdec_true (show selP key W it.1 it.2 j from ⟨HKK.out, hm⟩), cond_true]
                have hc4 := HC3.out.fr hF4 (fun h => h)
                have y0 := hc4.cell 0
                have y1 := hc4.cell 1
                have y2 := hc4.cell 2
                simp only [List.getElem?_toArray, List.getElem?_cons_zero, List.getElem?_cons_succ] at y0 y1 y2
                have HRq := Lib.hid (Kd.R_below HRs.out ((HF3.out.trans hF4).below (fun _ _ h => h)))
                have H6q := Lib.hid (H6s.out.fr (HF3.out.trans hF4) (fun h => h))
                have H9q := Lib.hid (H93.out.fr hF4 (fun h => h))
                have HGq := Lib.hid ((HGs.out.trans HF3.out).trans hF4)
                have HSE := Lib.hid hsel
                have hsn := selN_good (key := key) (W := W) (id := it.1) HGD.out j (by omega)
                have HSN := Lib.hid hsn
                clear hc4 hF4 hm hsel hsn x0 x1 x2 hse c0 c1 c2
                go_wp2_with (at_builtin; refine Kd.R_append cmdK w.heap.size rfl (.tmp 42) (.tmp 44) 32 60 _ 32 rfl Try.underlying32 info_cmd rfl (by decide) (by decide) u7 (selI key W L k ++ selN key W it.1 it.2 j) (cmx it.2 j) (cmdCells (cmx it.2 j)) (fun b => w.heap.size ≤ b) (fun _ => False) (by rfl) (by rfl) (cmdK_M _ _ _ _) (fun _ h => h.elim) (fun b hb => Nat.le_trans HGq.out.size hb) HRq.out (Below.refl _ _) HGq.out.size (by rw [List.length_append]; have h1 := HSL.out.2; have h2 := HSN.out.2; omega) ?_; intro v1 w5 hR1 hB1 hg1 hat1; have HR1 := Lib.hid hR1; have HG1 := Lib.hid hg1; clear hR1 hB1 hg1 hat1)
                go_roundw
                case rel =>
                  refine ⟨j + 1, by omega, by go_num, ?_, H6q.out.fr (Fr.of_grown HG1.out) (Kd.R_ne HRq.out H6q.out (by decide)), H9q.out.fr (Fr.of_grown HG1.out) (Kd.R_ne HRq.out H9q.out (by decide)), HGq.out.trans' (Fr.of_grown HG1.out) (fun i hi h => by have := Kd.R_base HRq.out i h.symm; omega)⟩
                  rw [HSE.out, ← List.append_assoc]
                  exact HR1.out
                case measure => simp [intOf]; omega
              · rw [decide_eq_false hm]
                have hsel : selN key W it.1 it.2 (j + 1) = selN key W it.1 it.2 j := by
                  show _ ++ (bif cdec (selP key W it.1 it.2 j) then _ else _) = _
                  rw [cdec_false (show ¬ selP key W it.1 it.2 j from fun h => hm h.2), cond_false, List.append_nil]
                have HSE := Lib.hid hsel
                have HF4 := Lib.hid hF4
                clear hm hsel hF4 x0 x1 x2 hse c0 c1 c2
                go_wp2_with fail
                go_roundw
                case rel =>
                  refine ⟨j + 1, by omega, by go_num, ?_, H6s.out.fr (HF3.out.trans HF4.out) (fun h => h), H93.out.fr HF4.out (fun h => h), (HGs.out.trans HF3.out).trans HF4.out⟩
                  rw [HSE.out]
                  exact Kd.R_below HRs.out ((HF3.out.trans HF4.out).below (fun _ _ h => h))
                case measure => simp [intOf]; omega
            · rw [cdec_false hkk] at hse
              have hsel : selN key W it.1 it.2 (j + 1) = selN key W it.1 it.2 j := by
                show _ ++ (bif cdec (selP key W it.1 it.2 j) then _ else _) = _
                rw [cdec_false (show ¬ selP key W it.1 it.2 j from fun h => hkk h.1), cond_false, List.append_nil]
              have HSE := Lib.hid hsel
              clear hkk hsel
              go_wp2_with fail
              go_roundw
              case rel =>
                refine ⟨j + 1, by omega, by go_num, ?_, H6s.out.fr HF3.out (fun h => h), H93.out, HGs.out.trans HF3.out⟩
                rw [HSE.out]
                exact Kd.R_below HRs.out (HF3.out.below (fun _ _ h => h))
              case measure => simp [intOf]; omega
          · obtain rfl : j = it.2.length := by omega
            have tjj : decide (it.2.length < it.2.length) = false := decide_eq_false (by omega)
            go_wp2_with fail
            go_roundw
            case rel =>
              refine ⟨k + 1, by omega, by go_num, ?_, H6s.out, HGs.out⟩
              show cmdK.R _ _ _ _ _ (selI key W L k ++ (if errBat (itx L k).2 = 0 then selN key W (itx L k).1 (itx L k).2 (itx L k).2.length else []))
              rw [← HIT.out, if_pos HE.out]
              exact HRs.out
            case measure => simp [intOf]; omega
      · have tne : (errBat it.2 != 0) = true := by simpa using he
        have HE := Lib.hid he
        have HF2 := Lib.hid hF2
        clear he hF2
        go_wp2_with fail
        go_roundw
        case rel =>
          refine ⟨k + 1, by omega, by go_num, ?_, H62.out, HG2.out⟩
          show cmdK.R _ _ _ _ _ (selI key W L k ++ (if errBat (itx L k).2 = 0 then selN key W (itx L k).1 (itx L k).2 (itx L k).2.length else []))
          rw [← HIT.out, if_neg HE.out, List.append_nil]
          exact HR2.out
        case measure => simp [intOf]; omega
    · obtain rfl : n = k := by omega
      have tnn : decide (n < n) = false := decide_eq_false (by omega)
      have hsl := selI_good (key := key) (W := W) HO.out n (by rw [HLn.out]; exact Nat.le_refl _)
      obtain ⟨A7, c7, rfl⟩ := Kd.R_slice HR.out
      have hC7 := (Kd.R_reads' HR.out).2.2
      have hcx := Lib.hid (cell_fold A7 _ c7 _ wr hC7 hsl.1 (by have := hsl.2; omega))
      obtain ⟨u, hu⟩ : ∃ u, u = foldC (selI key W L n) := ⟨_, rfl⟩
      have HU := Lib.hid hu
      clear hsl hC7 hu hk hge
      go_wp2_with fail
      refine hcx.out.mono ?_
      rintro r w5 ⟨rfl, hF5⟩
      rw [← HU.out]
      have h65 := H6r.out.fr hF5 (fun h => h)
      have z2 := h65.cell 0
      have z3 := h65.cell 1
      have zf := h65.frozen
      simp only [List.getElem?_toArray, List.getElem?_cons_zero, List.getElem?_cons_succ] at z2 z3
      go_wp2_with fail
      exact bodyPost_ret (results_cell_row Try.results23 _ _ b6 _ _ _ _ rfl (Blk.set2 h65) Try.underlying40 rfl (by kernel_rfl)) rfl ⟨by rw [HLn.out, ← HU.out], (HG.out.trans hF5).set2 (.inr (by have := HB6.out; omega)) _ _⟩
end Go.Proofs.Ytoklncfdhlplkaa
