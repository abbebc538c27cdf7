/- Layer 13's works. -/
import Derived.Test.YtoklncfdhlplkaaVaultS
import Derived.Test.YtoklncfdhlplkaaWorks14
import Derived.Test.YtoklncfdhlplkaaRef13C
set_option linter.unusedVariables false
set_option linter.unusedSimpArgs false
namespace Go.Proofs.Ytoklncfdhlplkaa
open Go.RowKit
open Go.Proofs.YtoklncfdhlplkaaW.PrintWords

theorem vault_count (g n : Nat) (S : Nat → Prop) (H : List HE) (w : World) (h : VaultRep w S g H n) :
    Calls Try.prog 28 #[.pointer (some ⟨g, 0, none⟩)] w fun r w' => r = .returned (.int .i64 n) ∧ Fr (fun _ => False) w w' := by
  obtain ⟨mc, ml, F, Lh, hV⟩ := h
  have h2 : w.cell? ⟨g, 2, none⟩ = _ := hV.blk.cell 2
  clear hV
  go_enter Try.func28, Try.ntmps28
  go_wp2_with fail
  go_ret
  exact ⟨rfl, Fr.refl _ _⟩
abbrev c13a : Cmd := (2, kA, two64)
abbrev c13b : Cmd := (1, kA, 0)
abbrev B13 : List Cmd := [c13a, c13b]
theorem ok13a : cmdOk c13a := ⟨.inr (.inl rfl), keyA, fun h => by rcases h with h | h <;> cases h⟩
theorem ok13b : cmdOk c13b := ⟨.inl rfl, keyA, fun _ => rfl⟩
theorem bat13 : errBat B13 = 0 := errBat_ok (by decide) fun i hi => by
  have : i = 0 ∨ i = 1 := by have : B13.length = 2 := rfl; omega
  rcases this with rfl | rfl
  · exact ok13a
  · exact ok13b
theorem good13 : ∀ x ∈ B13, CmdGood x := fun x hx => by
  rcases List.mem_cons.1 hx with rfl | hx
  · exact ⟨by decide, by decide⟩
  · rw [List.mem_singleton.1 hx]; exact ⟨by decide, by decide⟩
theorem can13 : canonP two64 = two64 := by decide +kernel
theorem tag13 : ([] : List HE) ++ tagN (1, 1) B13 2 = [((1, 1), 0, c13a), ((1, 1), 1, c13b)] := rfl
theorem cell13a : cellOf [((1, 1), 0, c13a)] kA = (true, two64) := by
  show cellStep kA (false, 0) ((1, 1), 0, c13a) = _
  unfold cellStep
  rw [cdec_true rfl]
  show (doC (false, 0) c13a).1 = _
  rw [doC_put ok13a rfl]
  exact congrArg (Prod.mk true) can13
theorem cell13 : cellOf [((1, 1), 0, c13a), ((1, 1), 1, c13b)] kA = (true, two64) := by
  have h := cellOf_snoc [((1, 1), 0, c13a)] ((1, 1), 1, c13b) kA
  rw [cell13a] at h
  refine h.trans ?_
  unfold cellStep
  rw [cdec_true rfl]
  show (doC (true, two64) c13b).1 = _
  rw [doC_get ok13b rfl]
theorem log13 : (logOf [((1, 1), 0, c13a), ((1, 1), 1, c13b)] kA).length = 1 := by
  have h1 : logOf ([] ++ [((1, 1), 0, c13a)]) kA = logOf [] kA ++ [((1, 1), 0)] := logOf_yes ⟨rfl, ok13a, by decide⟩
  have h2 : logOf (([] ++ [((1, 1), 0, c13a)]) ++ [((1, 1), 1, c13b)]) kA = logOf ([] ++ [((1, 1), 0, c13a)]) kA := logOf_no fun h => h.2.2 rfl
  rw [h1] at h2
  exact (congrArg List.length h2).trans rfl
theorem told13 : toldN [] (1, 1) B13 2 = [((1, 1), 0, (false, 0)), ((1, 1), 1, (true, two64))] := by
  show [((1, 1), ((0 : Nat) : Int), (doC (cellOf ([] ++ tagN (1, 1) B13 0) kA) c13a).2), ((1, 1), ((1 : Nat) : Int), (doC (cellOf [((1, 1), 0, c13a)] kA) c13b).2)] = _
  rw [doC_put ok13a rfl, cell13a, doC_get ok13b rfl]
  rfl
set_option maxRecDepth 100000 in
set_option maxHeartbeats 4000000 in
theorem works13 (w : World) : Calls Try.prog 7 #[] w fun r w' => r = .returned (.bool true) ∧ Fr (fun _ => False) w w' := by
  have hf2 := feq_two
  have hd2 := field_two
  go_enter Try.func7, Try.ntmps7
  go_wp2_with fail
  refine (vault_new w).mono ?_
  rintro r w1 ⟨g, S, rfl, hV, hS, hF⟩
  have HV := Lib.hid hV
  have HS := Lib.hid hS
  have HF := Lib.hid hF
  clear hV hS hF
  go_wp2_with fail
  have hb1 := Blk.new w1 60 #[.int .i64 2, .string kA, .float .f64 two64, .int .i64 1, .string kA, .float .f64 0]
  have hF1 := (Fr.refl (fun _ => False) w1).alloc (.cells #[.int .i64 2, .string kA, .float .f64 two64, .int .i64 1, .string kA, .float .f64 0] 60)
  have hV1 := HV.out.fr hF1 (fun _ _ h => h)
  have hlt := HV.out.lt
  refine (vault_apply (1, 1) (some ⟨w1.heap.size, 0, none⟩) 2 2 B13 g 0 S [] _ hV1 (cmdFlat.blk_C (L := B13) hb1 (by decide)) (fun _ ad ha hs => by cases ha; exact absurd (hlt _ hs) (by simp)) good13 (fun _ h => by cases h) (by decide) (by decide)).mono ?_
  rintro r W2 (⟨he, v, S2, rfl, hV2, hS2, hF2, hR2⟩ | ⟨he, rfl, hF2⟩)
  · obtain ⟨A2, c2, rfl⟩ := Kd.R_slice hR2
    rw [show B13.length = 2 from rfl, told13] at hR2
    rw [show (toldN [] (1, 1) B13 B13.length).length = 2 from rfl]
    have hC2 : resK.C W2 A2 2 _ := (Kd.R_reads' hR2).2.2
    obtain ⟨b, off, rfl, _, _, _, k3, _⟩ := ress_at hC2 (i := 0) (by decide)
    obtain ⟨b', off', he', _, _, _, _, m4⟩ := ress_at hC2 (i := 1) (by decide)
    cases he'
    have hVt : VaultRep W2 S2 g [((1, 1), 0, c13a), ((1, 1), 1, c13b)] 1 := hV2
    have HV2 := Lib.hid hVt
    have hFa := Lib.hid ((HF.out.trans hF1).trans' hF2 (fun i hi h => by have := HS.out i h; omega))
    clear hV2 hF2 hR2 hC2 hb1 hF1 hV1 hlt hS2 hVt he
    replace k3 : W2.cell? ⟨b, off + 3, none⟩ = some (.bool false) := by rw [Nat.zero_mul, Nat.add_zero] at k3; exact k3
    replace m4 : W2.cell? ⟨b, off + 5 + 3 + 1, none⟩ = some (.float .f64 two64) := by rw [Nat.one_mul] at m4; exact m4
    go_wp2_with fail
    refine (vault_get g 1 S2 _ kA W2 HV2.out (by decide)).mono ?_
    rintro r W3 ⟨rfl, hF3⟩
    rw [cell13]
    have HF3 := Lib.hid hF3
    clear hF3
    go_wp2_with fail
    refine (vault_log g 1 S2 _ kA W3 (HV2.out.fr HF3.out (fun _ _ h => h)) (by decide) (by decide)).mono ?_
    rintro r W4 ⟨v4, rfl, hR4, hF4⟩
    obtain ⟨A4, c4, rfl⟩ := Kd.R_slice hR4
    rw [log13]
    have HF4 := Lib.hid (HF3.out.trans hF4)
    clear hF4 hR4
    go_wp2_with fail
    refine (vault_count g 1 S2 _ W4 (HV2.out.fr HF4.out (fun _ _ h => h))).mono ?_
    rintro r W5 ⟨rfl, hF5⟩
    have HF5 := Lib.hid (HF4.out.trans hF5)
    clear hF5
    go_wp2_with fail
    go_ret
    exact ⟨rfl, hFa.out.trans HF5.out⟩
  · exact absurd bat13 he
end Go.Proofs.Ytoklncfdhlplkaa
