/- batch.Touches. -/
import Derived.Test.YtckcdgmcoomngaaBatF
set_option linter.unusedVariables false
set_option linter.unusedSimpArgs false
namespace Go.Proofs.Ytckcdgmcoomngaa
open Go.RowKit
open Go.Proofs.YtckcdgmcoomngaaW.PrintWords

theorem touches1 (x : Cmd) (key : ByteArray) (p : Addr) (w : World) (hp : w.cell? p = some (.string key)) :
    Calls Try.prog 44 #[.agg #[.int .i64 x.1, .string x.2.1, .float .f64 x.2.2], .pointer (some p)] w fun r w' => r = .returned (.bool (cdec (x.2.1 = key))) ∧ Fr (fun _ => False) w w' := by
  have hF := (Fr.refl (fun _ => False) w).alloc (.cells #[.int .i64 x.1, .string x.2.1, .float .f64 x.2.2] 36)
  have h1 := hF.cell hp (fun h => h)
  have hb := Blk.new w 36 #[.int .i64 x.1, .string x.2.1, .float .f64 x.2.2]
  have hc1 := hb.cell 1
  go_enter Try.func44, Try.ntmps44
  go_wp2_with fail
  go_ret
  exact ⟨ret_bool beq_list, hF⟩
theorem bat_touches (A : Option Addr) (n c : Nat) (L : List Cmd) (key : ByteArray) (w : World) (hC : cmdK.C w A n L) :
    Calls Try.prog 25 #[.slice A n c, .string key] w fun r w' => r = .returned (.bool (cdec (∃ x ∈ L, x.2.1 = key))) ∧ Fr (fun _ => False) w w' := by
  have HC := Lib.hid hC
  have HF := Lib.hid ((Fr.refl (fun _ => False) w).alloc (.cells #[.string key] 9))
  have HB := Lib.hid ((Blk.new w 9 #[.string key]).cell 0)
  clear hC
  go_enter Try.func25, Try.ntmps25
  go_wp2_with fail
  refine (contains_funcT A n c L ⟨w.heap.size, 0, none⟩ (fun x => x.2.1 = key) _ (Kd.C_below HC.out (HF.out.below (fun _ _ h => h))) (fun wr hF x hx => touches1 x key _ wr (hF.cell HB.out (fun h => h)))).mono ?_
  rintro r w2 ⟨rfl, hF2⟩
  have HF2 := Lib.hid (HF.out.trans hF2)
  obtain ⟨y, hy⟩ : ∃ y, y = cdec (∃ x ∈ L, x.2.1 = key) := ⟨_, rfl⟩
  rw [← hy]
  have HY := Lib.hid hy
  clear hF2 hy
  go_wp2_with fail
  go_ret
  exact ⟨ret_bool HY.out, HF2.out⟩
end Go.Proofs.Ytckcdgmcoomngaa
