/- Layer 28's works. -/
import Derived.Test.YtmfbcebbklimoaaLedT
set_option linter.unusedVariables false
set_option linter.unusedSimpArgs false
namespace Go.Proofs.Ytmfbcebbklimoaa
open Go.RowKit
open Go.Proofs.YtmfbcebbklimoaaW.PrintWords

abbrev r28 : Rec := ((0, 4), 0, [], [])
abbrev z28 : Rec := ((0, 0), 0, [], [])
theorem nilAt (w : World) (i : Int × Int) (q : Int) : RecAt w (i, q, [], []) none none 0 0 :=
  ⟨Nat.le_refl _, Nat.le_refl _, ⟨rfl, Nat.zero_le _, fun h => absurd h (Nat.lt_irrefl 0)⟩, ⟨rfl, Nat.zero_le _, fun h => absurd h (Nat.lt_irrefl 0)⟩⟩
theorem worst28 : IsWorst (fun e => e ∈ [(0 : Int), 16, 16]) (fun e => [(0 : Int), 16, 16].count e) 16 2 :=
  .inr ⟨by decide, by decide, by decide, by decide, fun e he h0 => by
    have : e = 0 ∨ e = 16 := by simpa using he
    rcases this with rfl | rfl
    · exact absurd rfl h0
    · decide⟩
set_option maxRecDepth 100000 in
set_option maxHeartbeats 8000000 in
theorem works28 (w : World) : Calls Try.prog 4 #[] w fun r w' => r = .returned (.bool true) ∧ Fr (fun _ => False) w w' := by
  go_enter Try.func4, Try.ntmps4
  go_wp2_with fail
  refine (led_new' w).mono ?_
  rintro r w1 ⟨g, mc, S0, rfl, hV, hS, hm, hg, hF⟩
  have HV1 := Lib.hid (show LedRep w1 S0 g [] [] from ⟨_, _, _, hV⟩)
  have HS1 := Lib.hid (show ∀ b, S0 b → w.heap.size ≤ b from fun b hb => ((hS b).1 hb).elim (fun h => by omega) (fun h => by omega))
  have F1 := Lib.hid hF
  clear hV hS hm hg hF
  go_wp2_with fail
  refine (led_note g S0 [] [] 0 r28 none none 0 0 w1 HV1.out (by decide) (fun w' _ => nilAt w' _ _) (by decide) (by decide) (by decide) (by decide)).mono ?_
  rintro r w2 ⟨rfl, S2, hV, hS, hF⟩
  have HV2 := Lib.hid (show LedRep w2 S2 g [0] [r28] from hV)
  have HS2 := Lib.hid (show ∀ b, S2 b → w.heap.size ≤ b from fun b hb => (hS b hb).elim (HS1.out b) (fun h => Nat.le_trans F1.out.size h))
  have F2 := Lib.hid (F1.out.trans' hF (fun i hi h => by have := HS1.out i h; omega))
  clear hV hS hF
  go_wp2_with fail
  refine (led_note g S2 [0] [r28] 16 z28 none none 0 0 w2 HV2.out (by decide) (fun w' _ => nilAt w' _ _) (by decide) (by decide) (by decide) (by decide)).mono ?_
  rintro r w3 ⟨rfl, S3, hV, hS, hF⟩
  have HV3 := Lib.hid (show LedRep w3 S3 g [0, 16] [r28] from hV)
  have HS3 := Lib.hid (show ∀ b, S3 b → w.heap.size ≤ b from fun b hb => (hS b hb).elim (HS2.out b) (fun h => Nat.le_trans F2.out.size h))
  have F3 := Lib.hid (F2.out.trans' hF (fun i hi h => by have := HS2.out i h; omega))
  clear hV hS hF
  go_wp2_with fail
  refine (led_note g S3 [0, 16] [r28] 16 z28 none none 0 0 w3 HV3.out (by decide) (fun w' _ => nilAt w' _ _) (by decide) (by decide) (by decide) (by decide)).mono ?_
  rintro r w4 ⟨rfl, S4, hV, hS, hF⟩
  have HV4 := Lib.hid (show LedRep w4 S4 g [0, 16, 16] [r28] from hV)
  have F4 := Lib.hid (F3.out.trans' hF (fun i hi h => by have := HS3.out i h; omega))
  clear hV hS hF
  go_wp2_with fail
  refine (led_worst g S4 [0, 16, 16] [r28] w4 HV4.out (by decide)).mono ?_
  rintro r w5 ⟨x, m, rfl, hw, hF⟩
  obtain ⟨rfl, rfl⟩ := hw.one worst28
  have F5 := Lib.hid hF
  clear hF hw
  go_wp2_with fail
  refine (led_count g S4 [0, 16, 16] [r28] 0 w5 (HV4.out.fr F5.out (fun _ _ h => h)) (by decide)).mono ?_
  rintro r w6 ⟨rfl, hF⟩
  rw [show [(0 : Int), 16, 16].count 0 = 1 from by decide]
  have F6 := Lib.hid (F5.out.trans hF)
  clear hF
  go_wp2_with fail
  refine (led_records g S4 [0, 16, 16] [r28] w6 (HV4.out.fr F6.out (fun _ _ h => h)) (by decide) (by decide)).mono ?_
  rintro r w7 ⟨v7, rfl, hR7, hF⟩
  obtain ⟨A7, c7, rfl⟩ := Kd.R_slice hR7
  have F7 := Lib.hid (F6.out.trans hF)
  clear hF hR7
  go_wp2_with fail
  refine (led_records g S4 [0, 16, 16] [r28] w7 (HV4.out.fr F7.out (fun _ _ h => h)) (by decide) (by decide)).mono ?_
  rintro r w8 ⟨v8, rfl, hR8, hF⟩
  obtain ⟨A8, c8, rfl⟩ := Kd.R_slice hR8
  obtain ⟨b8, o8, _, _, _, _, rfl, _, z0, z1, z2, z3, z4⟩ := recs_at (Kd.R_reads' hR8).2.2 (i := 0) (by decide)
  replace z1 : w8.cell? ⟨b8, o8 + 1, none⟩ = some (.int .i64 4) := by have h : (rcx [r28] 0).1.2 = 4 := rfl; rw [h] at z1; simpa using z1
  have F8 := Lib.hid (F7.out.trans hF)
  clear hF hR8 z0 z2 z3 z4
  go_wp2_with fail
  refine (led_answers g S4 [0, 16, 16] [r28] w8 (HV4.out.fr F8.out (fun _ _ h => h)) (by decide)).mono ?_
  rintro r w9 ⟨b9, rfl, _, _, hF⟩
  have F9 := Lib.hid (F8.out.trans hF)
  clear hF
  go_wp2_with fail
  go_ret
  exact ⟨rfl, F4.out.trans F9.out⟩
end Go.Proofs.Ytmfbcebbklimoaa
