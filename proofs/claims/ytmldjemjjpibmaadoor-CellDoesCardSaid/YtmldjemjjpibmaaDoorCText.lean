/- The texts of a cell: the code's and the reference's. -/
import Derived.Test.YtmldjemjjpibmaaDoorRefT
import Derived.Test.YtmldjemjjpibmaaDoorWorks12
set_option linter.unusedVariables false
set_option linter.unusedSimpArgs false
namespace Go.Proofs.YtmldjemjjpibmaaDoor
open Go.RowKit
open Go.Proofs.YtmldjemjjpibmaaDoorW.PrintWords

theorem ref_text (x : Nat) (hx : x < 18446744073709551616) (w : World) : Calls Tryd.prog 24 #[.float .f64 x] w fun r w' => ∃ s, r = .returned (.string ⟨s.toArray⟩) ∧ TextIs x s ∧ Fr (fun _ => False) w w' := by
  by_cases hf : kindP x = 2 ∨ kindP x = 5
  · obtain ⟨h0, h1⟩ := kind_fin hf
    have hs0 : 0 < scale (rung x) := by have := scale_mono h0; omega
    obtain ⟨o, t, hs, ho⟩ := odd_ex _ hs0
    have hxe : x = sbt (negW x) + rung x := by
      unfold sbt negW rung
      by_cases h : x / 9223372036854775808 % 2 = 1
      · rw [show (x / 9223372036854775808 % 2 == 1) = true from by rw [h]; rfl, if_pos rfl]; omega
      · rw [show (x / 9223372036854775808 % 2 == 1) = false from by simpa using h]; simp; omega
    have h := ref_text_fin (negW x) (rung x) o t h0 h1 (by rw [← hxe]; exact hf) hs ho w
    rw [← hxe] at h
    exact h.mono fun r w' ⟨hr, hF⟩ => ⟨_, hr, .inl ⟨hf, o, t, hs, ho, rfl⟩, hF⟩
  · obtain ⟨kd, hkd⟩ : ∃ k, k = kindP x := ⟨_, rfl⟩
    have HK := Lib.hid hkd
    have ha := kind_all x
    rw [← hkd] at ha hf
    have HR := Lib.hid (ref_kind x hx)
    rw [← hkd] at HR
    have HNF := Lib.hid hf
    clear hkd hx
    go_enter Tryd.func24, Tryd.ntmps24
    go_wp2_with fail
    refine (HR.out _).mono ?_
    rintro r w1 ⟨rfl, rfl⟩
    have htx := fun s (h : s = kindText kd) => (show TextIs x s from .inr ⟨by rw [← HK.out]; exact HNF.out, by rw [← HK.out]; exact h⟩)
    have HTX := Lib.hid htx
    clear htx HNF HK HR
    rcases ha with rfl | rfl | rfl | rfl | rfl | rfl | rfl
    · clear hf
      go_wp2_with fail
      go_ret
      exact ⟨[110, 97, 110], rfl, HTX.out _ rfl, Fr.refl _ _⟩
    · clear hf
      go_wp2_with fail
      go_ret
      exact ⟨[45, 105, 110, 102], rfl, HTX.out _ rfl, Fr.refl _ _⟩
    · exact absurd (.inl rfl) hf
    · clear hf
      go_wp2_with fail
      go_ret
      exact ⟨[45, 48], rfl, HTX.out _ rfl, Fr.refl _ _⟩
    · clear hf
      go_wp2_with fail
      go_ret
      exact ⟨[48], rfl, HTX.out _ rfl, Fr.refl _ _⟩
    · exact absurd (.inr rfl) hf
    · clear hf
      go_wp2_with fail
      go_ret
      exact ⟨[105, 110, 102], rfl, HTX.out _ rfl, Fr.refl _ _⟩
def CText (c : CellD) (s : List UInt8) : Prop := if c.1 = true then TextIs c.2 s else s = [110, 111, 110, 101]
theorem CText.one {c : CellD} {s s' : List UInt8} (h : CText c s) (h' : CText c s') : s = s' := by
  unfold CText at h h'
  split at h
  · rename_i hc; rw [if_pos hc] at h'; exact TextIs.one h h'
  · rename_i hc; rw [if_neg hc] at h'; rw [h, h']
theorem cell_text (c : CellD) (hc : CellOk c) (w : World) (ht : Tab w) : Calls Tryd.prog 11 #[cellV c] w fun r w' => ∃ s, r = .returned (.string ⟨s.toArray⟩) ∧ CText c s ∧ Fr (fun _ => False) w w' := by
  obtain ⟨f, x⟩ := c
  have hF := (Fr.refl (fun _ => False) w).alloc (.cells #[.bool f, .float .f64 x] 24)
  have HF := Lib.hid hF
  have HT := Lib.hid (ht.fr hF)
  clear hF ht
  cases f
  · go_enter Tryd.func11, Tryd.ntmps11
    go_wp2_with fail
    go_ret
    exact ⟨[110, 111, 110, 101], rfl, rfl, HF.out⟩
  · go_enter Tryd.func11, Tryd.ntmps11
    go_wp2_with fail
    refine (ex_text x hc _ HT.out).mono ?_
    rintro r w1 ⟨s, rfl, hs, hF1⟩
    go_wp2_with fail
    go_ret
    exact ⟨s, rfl, hs, HF.out.trans hF1⟩
theorem ref_ctext (c : CellD) (hc : CellOk c) (w : World) : Calls Tryd.prog 12 #[cellV c] w fun r w' => ∃ s, r = .returned (.string ⟨s.toArray⟩) ∧ CText c s ∧ Fr (fun _ => False) w w' := by
  obtain ⟨f, x⟩ := c
  have HF := Lib.hid ((Fr.refl (fun _ => False) w).alloc (.cells #[.bool f, .float .f64 x] 24))
  cases f
  · go_enter Tryd.func12, Tryd.ntmps12
    go_wp2_with fail
    go_ret
    exact ⟨[110, 111, 110, 101], rfl, rfl, HF.out⟩
  · go_enter Tryd.func12, Tryd.ntmps12
    go_wp2_with fail
    refine (ref_text x hc _).mono ?_
    rintro r w1 ⟨s, rfl, hs, hF1⟩
    go_wp2_with fail
    go_ret
    exact ⟨s, rfl, hs, HF.out.trans hF1⟩
end Go.Proofs.YtmldjemjjpibmaaDoor
