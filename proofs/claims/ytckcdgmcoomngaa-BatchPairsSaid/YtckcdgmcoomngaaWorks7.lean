/- Layer 7's works. -/
import Derived.Test.YtckcdgmcoomngaaTells7
set_option linter.unusedVariables false
set_option linter.unusedSimpArgs false
namespace Go.Proofs.Ytckcdgmcoomngaa
open Go.RowKit
open Go.Proofs.YtckcdgmcoomngaaW.PrintWords

abbrev kA7 : ByteArray := ⟨#[97]⟩
abbrev kB7 : ByteArray := ⟨#[98]⟩
abbrev one7 : Nat := 4607182418800017408
abbrev c7a : Cmd := (1, kA7, 0)
abbrev c7b : Cmd := (2, kB7, one7)
abbrev B7 : List Cmd := [c7a, c7b]
theorem key7 (s : ByteArray) (h1 : s.size = 1) (hc : ∀ h : 0 < s.size, charK s[0].toNat) : keyOk s := by
  refine ⟨fun i h => ?_, by omega, by omega⟩
  have : i = 0 := by omega
  subst this
  exact hc h
theorem ok7a : cmdOk c7a := ⟨.inl rfl, key7 _ rfl (fun _ => show charK 97 from .inl ⟨by decide, by decide⟩), fun _ => rfl⟩
theorem ok7b : cmdOk c7b := ⟨.inr (.inl rfl), key7 _ rfl (fun _ => show charK 98 from .inl ⟨by decide, by decide⟩), fun h => by rcases h with h | h <;> cases h⟩
theorem bat7 : errBat B7 = 0 := errBat_ok (by decide) fun i hi => by
  have : i = 0 ∨ i = 1 := by have : B7.length = 2 := rfl; omega
  rcases this with rfl | rfl
  · exact ok7a
  · exact ok7b
theorem good7 : ∀ x ∈ B7, CmdGood x := fun x hx => by
  rcases List.mem_cons.1 hx with rfl | hx
  · exact ⟨by decide, by decide⟩
  · rw [List.mem_singleton.1 hx]; exact ⟨by decide, by decide⟩
theorem keys7 : keysR B7 = [kA7, kB7] := rising_one _ _ (keysR_rising _) (by
    unfold Rising
    exact List.pairwise_cons.2 ⟨fun b hb => by rw [List.mem_singleton.1 hb]; exact (ltS_iff kA7 kB7).1 (by decide +kernel), List.pairwise_singleton _ _⟩) (fun s => by
  rw [keysR_mem]
  constructor
  · rintro ⟨c, hc, rfl⟩
    rcases List.mem_cons.1 hc with rfl | hc
    · exact List.mem_cons_self ..
    · rw [List.mem_singleton.1 hc]; exact List.mem_cons_of_mem _ (List.mem_cons_self ..)
  · intro hs
    rcases List.mem_cons.1 hs with rfl | hs
    · exact ⟨c7a, by simp, rfl⟩
    · rw [List.mem_singleton.1 hs]; exact ⟨c7b, by simp, rfl⟩)
theorem wrs7 : wrsB kB7 B7 2 = [1] := by
  have h1 : wrsB kB7 B7 1 = wrsB kB7 B7 0 := wrsB_no (k := 0) fun h => absurd h.1 (by decide)
  have h2 : wrsB kB7 B7 2 = wrsB kB7 B7 1 ++ [((1 : Nat) : Int)] := wrsB_yes (k := 1) ⟨rfl, ok7b, by decide⟩
  rw [h2, h1]
  rfl
theorem conf7 : ∃ x ∈ B7, ∃ y ∈ B7, confP x y := ⟨c7b, by simp, c7b, by simp, ok7b, ok7b, rfl, .inl (by decide)⟩
theorem touch7 : ∃ x ∈ B7, x.2.1 = kA7 := ⟨c7a, by simp, rfl⟩
set_option maxRecDepth 100000 in
set_option maxHeartbeats 4000000 in
theorem works7 (w : World) : Calls Try.prog 16 #[] w fun r w' => r = .returned (.bool true) ∧ Fr (fun _ => False) w w' := by
  have HC := Lib.hid (cmdFlat.blk_C (L := B7) (Blk.new w 36 #[.int .i64 1, .string kA7, .float .f64 0, .int .i64 2, .string kB7, .float .f64 one7]) (by decide))
  have HF := Lib.hid ((Fr.refl (fun _ => False) w).alloc (.cells #[.int .i64 1, .string kA7, .float .f64 0, .int .i64 2, .string kB7, .float .f64 one7] 36))
  go_enter Try.func16, Try.ntmps16
  go_wp2_with fail
  generalize w.alloc (.cells #[.int .i64 1, .string kA7, .float .f64 0, .int .i64 2, .string kB7, .float .f64 one7] 36) = w0 at HC HF ⊢
  refine (bat_check _ 2 2 B7 w0 HC.out good7).mono ?_
  rintro r w1 ⟨rfl, hF1⟩
  rw [bat7]
  have F1 := Lib.hid hF1
  clear hF1
  go_wp2_with fail
  refine (bat_keys _ 2 2 B7 w1 (Kd.C_below HC.out (F1.out.below (fun _ _ h => h))) good7 (by decide)).mono ?_
  rintro r w2 ⟨v2, rfl, hR2, hF2⟩
  obtain ⟨A2, c2, rfl⟩ := Kd.R_slice hR2
  rw [keys7] at hR2 ⊢
  have C2 := Lib.hid (Kd.R_reads' (Kd.R_alloc hR2 (.cells #[.string kA7, .string kB7] 9))).2.2
  have D2 := Lib.hid (strFlat.blk_C (L := [kA7, kB7]) (Blk.new w2 9 #[.string kA7, .string kB7]) (by decide))
  have F2 := Lib.hid ((F1.out.trans hF2).alloc (.cells #[.string kA7, .string kB7] 9))
  clear hR2 hF2
  rw [show ([kA7, kB7] : List ByteArray).length = 2 from rfl]
  go_wp2_with fail
  refine (ref_sameTexts A2 _ 2 c2 2 2 [kA7, kB7] [kA7, kB7] _ C2.out D2.out (by decide) (by decide)).mono ?_
  rintro r w3 ⟨rfl, hF3⟩
  rw [decide_eq_true rfl]
  have F3 := Lib.hid (F2.out.trans hF3)
  clear hF3
  go_wp2_with fail
  refine (bat_writes _ 2 2 B7 kB7 w3 (Kd.C_below HC.out (F3.out.below (fun _ _ h => h))) good7 (by decide)).mono ?_
  rintro r w4 ⟨v4, rfl, hR4, hF4⟩
  obtain ⟨A4, c4, rfl⟩ := Kd.R_slice hR4
  rw [wrs7] at hR4 ⊢
  have C4 := Lib.hid (Kd.R_reads' (Kd.R_alloc hR4 (.cells #[.int .i64 1] 3))).2.2
  have F4 := Lib.hid ((F3.out.trans hF4).alloc (.cells #[.int .i64 1] 3))
  have intFlat : Flat intK (fun i => [.int .i64 i]) := ⟨fun _ => rfl, fun h => h, fun _ _ _ _ => rfl⟩
  have D4 := Lib.hid (intFlat.blk_C (L := [1]) (Blk.new w4 3 #[.int .i64 1]) (by decide))
  clear hR4 hF4 intFlat
  rw [show ([1] : List Int).length = 1 from rfl]
  go_wp2_with fail
  refine (ref_sameInts A4 _ 1 c4 1 1 [1] [1] _ C4.out D4.out (by decide) (by decide)).mono ?_
  rintro r w5 ⟨rfl, hF5⟩
  rw [decide_eq_true rfl]
  have F5 := Lib.hid (F4.out.trans hF5)
  clear hF5
  go_wp2_with fail
  refine (bat_conflict _ _ 2 2 2 2 B7 B7 w5 (Kd.C_below HC.out (F5.out.below (fun _ _ h => h))) (Kd.C_below HC.out (F5.out.below (fun _ _ h => h))) good7 good7).mono ?_
  rintro r w6 ⟨rfl, hF6⟩
  rw [cdec_true conf7]
  have F6 := Lib.hid (F5.out.trans hF6)
  clear hF6
  go_wp2_with fail
  refine (bat_same _ _ 2 2 2 2 B7 B7 w6 (Kd.C_below HC.out (F6.out.below (fun _ _ h => h))) (Kd.C_below HC.out (F6.out.below (fun _ _ h => h))) (by decide) (by decide) (fun x hx => (good7 x hx).2) (fun x hx => (good7 x hx).2)).mono ?_
  rintro r w7 ⟨rfl, hF7⟩
  rw [cdec_true (cmdsS_refl B7)]
  have F7 := Lib.hid (F6.out.trans hF7)
  clear hF7
  go_wp2_with fail
  refine (bat_touches _ 2 2 B7 kA7 w7 (Kd.C_below HC.out (F7.out.below (fun _ _ h => h)))).mono ?_
  rintro r w8 ⟨rfl, hF8⟩
  rw [cdec_true touch7]
  have F8 := Lib.hid (F7.out.trans hF8)
  clear hF8
  go_wp2_with fail
  go_ret
  exact ⟨rfl, HF.out.trans F8.out⟩
end Go.Proofs.Ytckcdgmcoomngaa
