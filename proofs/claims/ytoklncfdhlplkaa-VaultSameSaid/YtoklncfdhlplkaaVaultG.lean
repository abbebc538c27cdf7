/- Vaults: Get, Log, Count. -/
import Derived.Test.YtoklncfdhlplkaaVaultD
set_option linter.unusedVariables false
set_option linter.unusedSimpArgs false
namespace Go.Proofs.Ytoklncfdhlplkaa
open Go.RowKit
open Go.Proofs.YtoklncfdhlplkaaW.PrintWords

theorem zero_cell' (w : World) : (zeroValue 40).run Try.prog w = .ok (cellV (false, 0)) w := by kernel_rfl
theorem zero_wrs' (w : World) : (zeroValue 43).run Try.prog w = .ok (.slice none 0 0) w := by kernel_rfl
theorem VaultAt.look {w : World} {S : Nat → Prop} {g mc ml : Nat} {F : ByteArray → Option CellD} {Lh : ByteArray → Option Hdr} {H : List HE} {n : Nat} (h : VaultAt w S g mc ml F Lh H n) {key : ByteArray} (hk : key.size ≤ maxLen) :
    (Instr.lookup 66 (.map (some mc)) (.string key) false).run Try.prog w = .ok (cellV (cellOf H key)) w := by
  have := h.cells.lookup (t := 66) (et := 40) Try.underlying66 (z := cellV (false, 0)) (zero_cell' w) (a := key) hk
  rw [← h.cell]
  cases hq : F key <;> rw [hq] at this <;> exact this
theorem VaultAt.lookL {w : World} {S : Nat → Prop} {g mc ml : Nat} {F : ByteArray → Option CellD} {Lh : ByteArray → Option Hdr} {H : List HE} {n : Nat} (h : VaultAt w S g mc ml F Lh H n) {key : ByteArray} (hk : key.size ≤ maxLen) :
    ∃ A c, (Instr.lookup 67 (.map (some ml)) (.string key) false).run Try.prog w = .ok (.slice A (logOf H key).length c) w ∧ wrK.R 75 w 0 S (.slice A (logOf H key).length c) (logOf H key) := by
  have h0 := h.logs.lookup (t := 67) (et := 43) Try.underlying67 (z := .slice none 0 0) (zero_wrs' w) (a := key) hk
  have hR : wrK.R 75 w 0 S ((Lh key).elim (.slice none 0 0) hdrV) (logOf H key) := by
    cases hq : Lh key with
    | none => rw [h.log.none_ _ hq]; exact Kd.R_nil _ _ _ _ _
    | some h0 => exact h.log.row _ _ hq
  obtain ⟨A, c, he⟩ := Kd.R_slice hR
  rw [he] at h0 hR
  exact ⟨A, c, h0, hR⟩
theorem vault_get (g n : Nat) (S : Nat → Prop) (H : List HE) (key : ByteArray) (w : World) (h : VaultRep w S g H n) (hk : key.size ≤ maxLen) :
    Calls Try.prog 26 #[.pointer (some ⟨g, 0, none⟩), .string key] w fun r w' => r = .returned (cellV (cellOf H key)) ∧ Fr (fun _ => False) w w' := by
  obtain ⟨mc, ml, F, Lh, hV⟩ := h
  have hF := (Fr.refl (fun _ => False) w).alloc (.cells #[.bool false, .float .f64 0] 40)
  have hB := Blk.new w 40 #[.bool false, .float .f64 0]
  have hV1 := hV.fr hF (fun _ _ h => h)
  have hlk := hV1.look hk
  have v0 := hV1.blk.cell 0
  simp only [List.getElem?_toArray, List.getElem?_cons_zero, List.getElem?_cons_succ] at v0
  have HB := Lib.hid hB
  obtain ⟨c, hc⟩ : ∃ c, c = cellOf H key := ⟨_, rfl⟩
  rw [← hc] at hlk ⊢
  have HC := Lib.hid hc
  clear hB hV hV1 hc
  go_enter Try.func26, Try.ntmps26
  go_wp2_with fail
  trace_state
  exact bodyPost_ret (results_cell_row Try.results26 _ _ w.heap.size _ _ _ _ rfl (Blk.new w 40 #[.bool c.1, .float .f64 c.2]) Try.underlying40 rfl (by kernel_rfl)) rfl ⟨rfl, (Fr.refl (fun _ => False) w).alloc _⟩
theorem vault_log (g n : Nat) (S : Nat → Prop) (H : List HE) (key : ByteArray) (w : World) (h : VaultRep w S g H n) (hk : key.size ≤ maxLen) (hHl : H.length ≤ 1000000000) :
    Calls Try.prog 27 #[.pointer (some ⟨g, 0, none⟩), .string key] w fun r w' => ∃ v, r = .returned v ∧ wrK.R 75 w' w.heap.size (fun b => w.heap.size ≤ b) v (logOf H key) ∧ Fr (fun _ => False) w w' := by
  obtain ⟨mc, ml, F, Lh, hV⟩ := h
  have hF := (Fr.refl (fun _ => False) w).alloc (.cells #[] 75)
  have hV1 := hV.fr hF (fun _ _ h => h)
  obtain ⟨A, c, hlk, hR⟩ := hV1.lookL hk
  have v1 := hV1.blk.cell 1
  simp only [List.getElem?_toArray, List.getElem?_cons_zero, List.getElem?_cons_succ] at v1
  have hC := (Kd.R_reads' hR).2.2
  have hll := logOf_len H key
  obtain ⟨A1, c1, w1, hr, hR1, hg1⟩ := app_flat (P := Try.prog) wrFlat (xs := logOf H key) (n := (logOf H key).length) (c := c) (A := A) 43 43 _ 24 Try.underlying43 info_wr rfl (by decide) (by decide) (R_empty wrK 75 w) hC (fun k hk => by simp only [World.size_alloc] at hk; omega) (by simp) (by omega)
  have HF1 := Lib.hid (hF.trans' (Fr.of_grown hg1) (fun i hi h => by simp [Value.ownBlock] at h; omega))
  have HR1 := Lib.hid hR1
  have hr' := bi_append hr
  clear hC hR hV hV1 hg1 hR1 hF hr
  go_enter Try.func27, Try.ntmps27
  go_wp2_with (at_builtin; refine wpl_builtin2 rfl rfl rfl rfl hr' ?_)
  go_ret
  exact ⟨_, rfl, HR1.out, HF1.out⟩
end Go.Proofs.Ytoklncfdhlplkaa
