/- batch.Conflict: closures in closures. -/
import Derived.Test.YtckcdgmcoomngaaBatX
set_option linter.unusedVariables false
set_option linter.unusedSimpArgs false
namespace Go.Proofs.Ytckcdgmcoomngaa
open Go.RowKit
open Go.Proofs.YtckcdgmcoomngaaW.PrintWords

theorem conflict11 (x y : Cmd) (g : Nat) (w : World) (hx : CmdGood x) (hy : CmdGood y) (h0 : w.cell? ⟨g, 0, none⟩ = some (.int .i64 x.1)) (h1 : w.cell? ⟨g, 1, none⟩ = some (.string x.2.1)) (h2 : w.cell? ⟨g, 2, none⟩ = some (.float .f64 x.2.2)) :
    Calls Try.prog 49 #[.agg #[.int .i64 y.1, .string y.2.1, .float .f64 y.2.2], .pointer (some ⟨g, 0, none⟩)] w fun r w' => r = .returned (.bool (cdec (confP x y))) ∧ Fr (fun _ => False) w w' := by
  have hF := (Fr.refl (fun _ => False) w).alloc (.cells #[.int .i64 y.1, .string y.2.1, .float .f64 y.2.2] 36)
  have HF := Lib.hid hF
  have a0 := hF.cell h0 (fun h => h)
  have a1 := hF.cell h1 (fun h => h)
  have a2 := hF.cell h2 (fun h => h)
  clear hF h0 h1 h2
  go_enter Try.func49, Try.ntmps49
  go_wp2_with fail
  refine (cmd_conflict x y _ hx hy).mono ?_
  rintro r w2 ⟨rfl, hF2⟩
  have HF2 := Lib.hid (HF.out.trans hF2)
  obtain ⟨z, hz⟩ : ∃ z, z = cdec (confP x y) := ⟨_, rfl⟩
  rw [← hz]
  clear hF2 a0 a1 a2
  go_wp2_with fail
  go_ret
  exact ⟨rfl, HF2.out⟩
theorem conflict1 (x : Cmd) (A : Option Addr) (n c : Nat) (M : List Cmd) (g : Nat) (w : World) (hx : CmdGood x) (hM : ∀ y ∈ M, CmdGood y) (hC : cmdK.C w A n M) (h0 : w.cell? ⟨g, 0, none⟩ = some (.slice A n c)) :
    Calls Try.prog 48 #[.agg #[.int .i64 x.1, .string x.2.1, .float .f64 x.2.2], .pointer (some ⟨g, 0, none⟩)] w fun r w' => r = .returned (.bool (cdec (∃ y ∈ M, confP x y))) ∧ Fr (fun _ => False) w w' := by
  have hF := (Fr.refl (fun _ => False) w).alloc (.cells #[.int .i64 x.1, .string x.2.1, .float .f64 x.2.2] 36)
  have HB := Lib.hid (Blk.new w 36 #[.int .i64 x.1, .string x.2.1, .float .f64 x.2.2])
  have HF := Lib.hid hF
  have HC := Lib.hid hC
  have a0 := hF.cell h0 (fun h => h)
  clear hF h0 hC
  go_enter Try.func48, Try.ntmps48
  go_wp2_with fail
  refine (contains_funcD A n c M ⟨w.heap.size, 0, none⟩ (fun y => confP x y) _ (Kd.C_below HC.out (HF.out.below (fun _ _ h => h))) (fun wr hF y hy => conflict11 x y _ wr hx (hM y hy) (hF.cell (HB.out.cell 0) (fun h => h)) (hF.cell (HB.out.cell 1) (fun h => h)) (hF.cell (HB.out.cell 2) (fun h => h)))).mono ?_
  rintro r w2 ⟨rfl, hF2⟩
  have HF2 := Lib.hid (HF.out.trans hF2)
  obtain ⟨z, hz⟩ : ∃ z, z = cdec (∃ y ∈ M, confP x y) := ⟨_, rfl⟩
  rw [← hz]
  have HZ := Lib.hid hz
  clear hF2 a0 hz
  go_wp2_with fail
  go_ret
  exact ⟨ret_bool HZ.out, HF2.out⟩
theorem bat_conflict (A A' : Option Addr) (n c n' c' : Nat) (L M : List Cmd) (w : World) (hC : cmdK.C w A n L) (hC' : cmdK.C w A' n' M) (hL : ∀ x ∈ L, CmdGood x) (hM : ∀ y ∈ M, CmdGood y) :
    Calls Try.prog 29 #[.slice A n c, .slice A' n' c'] w fun r w' => r = .returned (.bool (cdec (∃ x ∈ L, ∃ y ∈ M, confP x y))) ∧ Fr (fun _ => False) w w' := by
  have HF := Lib.hid ((Fr.refl (fun _ => False) w).alloc (.cells #[.slice A' n' c'] 25))
  have HB := Lib.hid ((Blk.new w 25 #[.slice A' n' c']).cell 0)
  have HC := Lib.hid hC
  have HC' := Lib.hid hC'
  clear hC hC'
  go_enter Try.func29, Try.ntmps29
  go_wp2_with fail
  refine (contains_funcC A n c L ⟨w.heap.size, 0, none⟩ (fun x => ∃ y ∈ M, confP x y) _ (Kd.C_below HC.out (HF.out.below (fun _ _ h => h))) (fun wr hF x hx => conflict1 x A' n' c' M _ wr (hL x hx) hM (Kd.C_below HC'.out ((HF.out.trans hF).below (fun _ _ h => h))) (hF.cell HB.out (fun h => h)))).mono ?_
  rintro r w2 ⟨rfl, hF2⟩
  have HF2 := Lib.hid (HF.out.trans hF2)
  obtain ⟨z, hz⟩ : ∃ z, z = cdec (∃ x ∈ L, ∃ y ∈ M, confP x y) := ⟨_, rfl⟩
  rw [← hz]
  have HZ := Lib.hid hz
  clear hF2 hz
  go_wp2_with fail
  go_ret
  exact ⟨ret_bool HZ.out, HF2.out⟩
end Go.Proofs.Ytckcdgmcoomngaa
