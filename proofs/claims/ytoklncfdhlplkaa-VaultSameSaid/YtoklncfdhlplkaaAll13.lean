/- All keys of items. -/
import Derived.Test.YtoklncfdhlplkaaKeys7
import Derived.Test.YtoklncfdhlplkaaRef13
set_option linter.unusedVariables false
set_option linter.unusedSimpArgs false
namespace Go.Proofs.Ytoklncfdhlplkaa
open Go.RowKit
open Go.Proofs.YtoklncfdhlplkaaW.PrintWords

def cmdsI (L : List Item) : List Cmd := L.flatMap (·.2)
theorem cmdsI_succ {L : List Item} {k : Nat} (h : k < L.length) : cmdsI (L.take (k + 1)) = cmdsI (L.take k) ++ (itx L k).2 := by
  unfold cmdsI
  rw [List.take_succ_eq_append_getElem h, List.flatMap_append, ← itx_eq h]
  simp
theorem cmdsI_len {L : List Item} (h8 : ∀ it ∈ L, it.2.length ≤ 8) : ∀ k, k ≤ L.length → (cmdsI (L.take k)).length ≤ 8 * k
  | 0, _ => by simp [cmdsI]
  | k + 1, h => by
    rw [cmdsI_succ (by omega), List.length_append]
    have h1 := cmdsI_len h8 k (by omega)
    have h2 := h8 _ (itx_mem (i := k) (by omega))
    omega
set_option maxRecDepth 100000 in
set_option maxHeartbeats 4000000 in
theorem ref_all13 (A : Option Addr) (n c : Nat) (L : List Item) (w : World) (hC : itemK.C w A n L) (hn : n ≤ 1000) (h8 : ∀ it ∈ L, it.2.length ≤ 8) :
    Calls Try.prog 10 #[.slice A n c] w fun r w' => ∃ v, r = .returned v ∧ strK.R 9 w' w.heap.size (fun b => w.heap.size ≤ b) v (keysR (cmdsI L)) ∧ Fr (fun _ => False) w w' := by
  have HLn := Lib.hid (show L.length = n from hC.1)
  have HC := Lib.hid hC
  have H8 := Lib.hid h8
  have HF := Lib.hid ((Fr.refl (fun _ => False) w).alloc (.cells #[] 60))
  have HR0 := Lib.hid (R_empty cmdK 60 w)
  clear hC h8
  go_enter Try.func10, Try.ntmps10
  go_wp2_with fail
  go_loopw [3, 4] (fun u i wr => ∃ k : Nat, k ≤ n ∧ i = .int .i64 k ∧ cmdK.R 60 wr w.heap.size (fun b => w.heap.size ≤ b) u (cmdsI (L.take k)) ∧ Fr (fun _ => False) w wr) (fun _ i _ => n - (intOf i).toNat)
  case atStart => exact ⟨0, Nat.zero_le _, rfl, HR0.out, HF.out⟩
  case round =>
    obtain ⟨k, hk, rfl, hR, hG⟩ := hrel
    have HG := Lib.hid hG
    have HR := Lib.hid hR
    clear hG hR
    rcases Nat.lt_or_ge k n with hlt | hge
    · obtain ⟨b, off, Ab, cb, rfl, hcb, hCw, h0w, h1w, h2w⟩ := items_at HC.out hlt
      have h0 := HG.out.cell h0w (fun h => h)
      have h1 := HG.out.cell h1w (fun h => h)
      have h2 := HG.out.cell h2w (fun h => h)
      have hC2 := Kd.C_below hCw (HG.out.below (fun _ _ h => h))
      have hl0 := cmdsI_len H8.out k (by rw [HLn.out]; exact hk)
      have hl8 := H8.out _ (itx_mem (i := k) (by rw [HLn.out]; exact hlt))
      have HSUC := Lib.hid (cmdsI_succ (L := L) (k := k) (by rw [HLn.out]; exact hlt))
      obtain ⟨v3, W3, hr3, hR3, hg3, _⟩ := R_rows_run (P := Try.prog) cmdK w.heap.size 32 32 60 _ 32 Try.underlying32 info_cmd rfl (by decide) (by decide) u3 (cmdsI (L.take k)) (itx L k).2 Ab (itx L k).2.length cb (fun b => w.heap.size ≤ b) (fun _ => False) HR.out hC2 (fun x cs h => by rw [cmdFlat.K h]; exact cmdFlat.M _ _ _ _) (fun _ h => h.elim) (fun b hb => Nat.le_trans HG.out.size hb) HG.out.size (by omega)
      have hr3' := bi_append hr3
      have HR3 := Lib.hid hR3
      have HG3 := Lib.hid hg3
      clear h0w h1w h2w hCw hC2 hl0 hl8 hR3 hg3 hr3
      go_wp2_with (at_builtin; refine wpl_builtin2 rfl rfl rfl rfl hr3' ?_)
      go_roundw
      case rel =>
        refine ⟨k + 1, by omega, by go_num, ?_, HG.out.trans' (Fr.of_grown HG3.out) (fun i hi h => by have := Kd.R_base HR.out i h.symm; omega)⟩
        rw [HSUC.out]; exact HR3.out
      case measure => simp [intOf]; omega
    · obtain rfl : n = k := by omega
      have tnn : decide (n < n) = false := decide_eq_false (by omega)
      have hl : L.take n = L := by rw [← HLn.out]; exact List.take_length
      have hR := HR.out
      rw [hl] at hR
      have hl0 := cmdsI_len H8.out n (by rw [HLn.out]; exact Nat.le_refl _)
      rw [hl] at hl0
      obtain ⟨A3, c3, rfl⟩ := Kd.R_slice hR
      have HCk := Lib.hid (Kd.R_reads' hR).2.2
      have HL0 := Lib.hid hl0
      clear hR hl0 hl
      go_wp2_with fail
      refine (ref_keys7 A3 (cmdsI L).length c3 (cmdsI L) wr HCk.out (by have := HL0.out; omega)).mono ?_
      rintro r w2 ⟨v, rfl, hR2, hF2⟩
      have HR2 := Lib.hid hR2
      have HF2 := Lib.hid hF2
      clear hR2 hF2
      go_wp2_with fail
      go_ret
      exact ⟨_, rfl, Kd.R_mono (Kd.R_lower HR2.out HG.out.size) (fun b hb => Nat.le_trans HG.out.size hb), HG.out.trans HF2.out⟩
end Go.Proofs.Ytoklncfdhlplkaa
