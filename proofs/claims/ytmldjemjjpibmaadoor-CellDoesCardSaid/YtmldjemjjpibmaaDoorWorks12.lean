/- Layer 12's works. -/
import Derived.Test.YtmldjemjjpibmaaDoorExOne
set_option linter.unusedVariables false
set_option linter.unusedSimpArgs false
namespace Go.Proofs.YtmldjemjjpibmaaDoor
open Go.RowKit
open Go.Proofs.YtmldjemjjpibmaaDoorW.PrintWords

theorem Blk.newAt (w : World) (n : Nat) (h : w.heap.size = n) (t : TypeId) (cs : Array Value) : Blk (w.alloc (.cells cs t)) n t cs := by subst h; exact Blk.new w t cs
theorem cell_text1 (w : World) : Calls Tryd.prog 11 #[.agg #[.bool true, .float .f64 4607182418800017408]] w fun r w' => r = .returned (.string ⟨#[49, 112, 48]⟩) ∧ Fr (fun _ => False) w w' := by
  have HF := Lib.hid ((Fr.refl (fun _ => False) w).alloc (.cells #[.bool true, .float .f64 4607182418800017408] 24))
  go_enter Tryd.func11, Tryd.ntmps11
  go_wp2_with fail
  refine (text1 _).mono ?_
  rintro r w2 ⟨rfl, hF2⟩
  have F2 := Lib.hid (HF.out.trans hF2)
  clear hF2
  go_wp2_with fail
  go_ret
  exact ⟨rfl, F2.out⟩
theorem cell_text0 (w : World) : Calls Tryd.prog 11 #[.agg #[.bool false, .float .f64 0]] w fun r w' => r = .returned (.string ⟨#[110, 111, 110, 101]⟩) ∧ Fr (fun _ => False) w w' := by
  have HF := Lib.hid ((Fr.refl (fun _ => False) w).alloc (.cells #[.bool false, .float .f64 0] 24))
  go_enter Tryd.func11, Tryd.ntmps11
  go_wp2_with fail
  go_ret
  exact ⟨rfl, HF.out⟩
theorem keyA12 : keyOk ⟨#[97]⟩ := ⟨fun i h => by
    have : i = 0 := by simp [ByteArray.size] at h; omega
    subst this
    exact .inl ⟨(by decide : 97 ≤ 97), (by decide : 97 ≤ 122)⟩, by decide, by decide⟩
abbrev x12 : Cmd := (4, ⟨#[97]⟩, 4607182418800017408)
theorem ok12 : cmdOk x12 := ⟨.inr (.inr (.inr rfl)), keyA12, fun h => by rcases h with h | h <;> cases h⟩
theorem sum12 : sumC 0 4607182418800017408 = 4607182418800017408 := by decide +kernel
theorem do12 : doC (false, 0) x12 = ((true, 4607182418800017408), (true, 4607182418800017408)) := by
  rw [doC_add ok12 rfl]
  show ((true, sumC 0 4607182418800017408), (true, sumC 0 4607182418800017408)) = _
  rw [sum12]
theorem one_ok : CellOk (true, 4607182418800017408) := (by decide : 4607182418800017408 < 18446744073709551616)
theorem same12 : decide (absC (true, 4607182418800017408) = absC (true, 4607182418800017408)) = true := decide_eq_true rfl
set_option maxRecDepth 100000 in
theorem works12 (w : World) : Calls Tryd.prog 13 #[] w fun r w' => r = .returned (.bool true) ∧ Fr (fun _ => False) w w' := by
  have hf : ∀ w, (Op.equalIn 9999 22 (.float .f64 4607182418800017408) (.float .f64 4607182418800017408)).run Tryd.prog w = .ok true w := fun w => by kernel_rfl
  go_enter Tryd.func13, Tryd.ntmps13
  go_wp2_with fail
  refine (cell_do (false, 0) x12 w cell0_ok ⟨by decide, by decide⟩).mono ?_
  rintro r w1 ⟨rfl, hF1⟩
  rw [show doC (absC (false, 0)) x12 = ((true, 4607182418800017408), (true, 4607182418800017408)) from do12]
  have F1 := Lib.hid hF1
  clear hF1
  go_wp2_with fail
  have HA := Lib.hid ((Blk.new w1 24 #[.bool true, .float .f64 4607182418800017408]).alloc (.cells #[.bool true, .float .f64 4607182418800017408] 24))
  have hB := Blk.new (w1.alloc (.cells #[.bool true, .float .f64 4607182418800017408] 24)) 24 #[.bool true, .float .f64 4607182418800017408]
  rw [World.size_alloc] at hB
  have HB := Lib.hid hB
  have F2 := Lib.hid ((F1.out.alloc (.cells #[.bool true, .float .f64 4607182418800017408] 24)).alloc (.cells #[.bool true, .float .f64 4607182418800017408] 24))
  clear hB hf
  refine (cell_text1 _).mono ?_
  rintro r w3 ⟨rfl, hF3⟩
  have F3 := Lib.hid hF3
  clear hF3
  go_wp2_with fail
  refine (cell_text0 _).mono ?_
  rintro r w4 ⟨rfl, hF4⟩
  have F4 := Lib.hid (F3.out.trans hF4)
  have a0 := (HA.out.fr F4.out (fun h => h)).cell 0
  have a1 := (HA.out.fr F4.out (fun h => h)).cell 1
  have b0 := (HB.out.fr F4.out (fun h => h)).cell 0
  have b1 := (HB.out.fr F4.out (fun h => h)).cell 1
  simp only [List.getElem?_toArray, List.getElem?_cons_zero, List.getElem?_cons_succ] at a0 a1 b0 b1
  clear hF4
  go_wp2_with fail
  refine (cell_same (true, 4607182418800017408) (true, 4607182418800017408) _ one_ok one_ok).mono ?_
  rintro r w5 ⟨rfl, hF5⟩
  rw [same12]
  have F5 := Lib.hid (F4.out.trans hF5)
  clear hF5 a0 a1 b0 b1
  go_wp2_with fail
  go_ret
  exact ⟨rfl, F2.out.trans F5.out⟩
end Go.Proofs.YtmldjemjjpibmaaDoor
