/- The reference's decimal digits. -/
import Derived.Test.YtmldjemjjpibmaaDoorText
import Derived.Lib.ItoaMem
set_option linter.unusedVariables false
set_option linter.unusedSimpArgs false
namespace Go.Proofs.YtmldjemjjpibmaaDoor
open Go.RowKit
open Go.Proofs.YtmldjemjjpibmaaDoorW.PrintWords

theorem dig_ext (d : Nat) (hd : d < 10) : (⟨#[48, 49, 50, 51, 52, 53, 54, 55, 56, 57]⟩ : ByteArray).extract d (d + 1) = ⟨#[UInt8.ofNat (48 + d)]⟩ := by
  have h : ∀ d : Fin 10, (⟨#[48, 49, 50, 51, 52, 53, 54, 55, 56, 57]⟩ : ByteArray).extract d.val (d.val + 1) = ⟨#[UInt8.ofNat (48 + d.val)]⟩ := by decide +kernel
  exact h ⟨d, hd⟩
theorem dig_len (u : Nat) (hu : u < 4611686018427387904) : (⟨(Lib.decDigits u).toArray⟩ : ByteArray).size ≤ 21 := by
  have h := Lib.itoa_length_le (u : Int) (by omega) (by omega)
  rw [Lib.itoa_nonneg] at h
  exact h
theorem dig_cat (l : List UInt8) (x : UInt8) : (⟨l.toArray⟩ ++ ⟨#[x]⟩ : ByteArray) = ⟨(l ++ [x]).toArray⟩ := by
  apply ByteArray.ext
  simp [ByteArray.data_append]
theorem cat_dig (l : List UInt8) (x : UInt8) : (⟨#[x]⟩ ++ ⟨l.toArray⟩ : ByteArray) = ⟨(x :: l).toArray⟩ := by
  apply ByteArray.ext
  simp [ByteArray.data_append]
theorem dig_one (d : Nat) (hd : d < 10) (w : World) : Calls Tryd.prog 39 #[.int .i64 (d : Int)] w fun r w' => r = .returned (.string ⟨#[UInt8.ofNat (48 + d)]⟩) ∧ Fr (fun _ => False) w w' := by
  have t1 : decide ((d : Int) < -9) = false := decide_eq_false (by omega)
  have t2 : decide ((d : Int) < 0) = false := decide_eq_false (by omega)
  have t3 : decide ((d : Int) < 10) = true := decide_eq_true (by omega)
  have he := dig_ext d hd
  obtain ⟨sd, hsd⟩ : ∃ s, s = (⟨#[UInt8.ofNat (48 + d)]⟩ : ByteArray) := ⟨_, rfl⟩
  rw [← hsd] at he ⊢
  clear hsd
  go_enter Tryd.func39, Tryd.ntmps39
  go_wp2_with fail
  go_ret
  exact ⟨rfl, Fr.refl _ _⟩
set_option maxRecDepth 100000 in
set_option maxHeartbeats 400000 in
theorem dig_pos (u : Nat) (hu : u < 4611686018427387904) : ∀ (w : World), Calls Tryd.prog 39 #[.int .i64 (u : Int)] w fun r w' => r = .returned (.string ⟨(Lib.decDigits u).toArray⟩) ∧ Fr (fun _ => False) w w' := by
  induction u using Nat.strongRecOn with
  | _ u ih =>
    intro w
    by_cases h10 : u < 10
    · rw [Lib.decDigits_one h10]
      exact dig_one u h10 w
    · have t1 : decide ((u : Int) < -9) = false := decide_eq_false (by omega)
      have t2 : decide ((u : Int) < 0) = false := decide_eq_false (by omega)
      have t3 : decide ((u : Int) < 10) = false := decide_eq_false (by omega)
      have ih1 := ih (u / 10) (by omega) (by omega)
      have hsz := dig_len (u / 10) (by omega)
      have hcat := dig_cat (Lib.decDigits (u / 10)) (UInt8.ofNat (48 + u % 10))
      rw [← decDigits_add u h10] at hcat
      obtain ⟨s1, hs1⟩ : ∃ s, s = (⟨(Lib.decDigits (u / 10)).toArray⟩ : ByteArray) := ⟨_, rfl⟩
      obtain ⟨s0, hs0⟩ : ∃ s, s = (⟨(Lib.decDigits u).toArray⟩ : ByteArray) := ⟨_, rfl⟩
      rw [← hs1] at ih1 hcat hsz
      rw [← hs0] at hcat ⊢
      obtain ⟨v, hv⟩ : ∃ v, v = u / 10 := ⟨_, rfl⟩
      obtain ⟨d, hd⟩ : ∃ d, d = u % 10 := ⟨_, rfl⟩
      have hd10 : d < 10 := by omega
      have e1 : (u : Int).tdiv 10 = (v : Int) := by rw [hv]; rfl
      have e2 : (u : Int).tmod 10 = (d : Int) := by rw [hd]; rfl
      have e3 := dig_ext d hd10
      rw [← hv] at ih1
      rw [← hd] at hcat
      have IH := Lib.hid ih1
      obtain ⟨St, hSt⟩ : ∃ St : World → Prop, St = Fr (fun _ => False) w := ⟨_, rfl⟩
      have HT := Lib.hid (show ∀ w', Fr (fun _ => False) w w' → At St w' from fun w' h => by unfold At; rw [hSt]; exact h)
      have hT0 := HT.out w.drew (Fr.refl _ _).drew
      obtain ⟨sd, hsd⟩ : ∃ s, s = (⟨#[UInt8.ofNat (48 + d)]⟩ : ByteArray) := ⟨_, rfl⟩
      have z1 : sd.size ≤ 1 := by rw [hsd]; exact Nat.le_refl 1
      rw [← hsd] at hcat e3
      have w1 : IntKind.i64.wrap ((d : Int) + 1) = (d : Int) + 1 := by simp only [IntKind.wrap, IntKind.signed, IntKind.bits]; first | omega | go_num
      have hvb : v < 4611686018427387904 := by omega
      have w2 : IntKind.i64.wrap (v : Int) = (v : Int) := by simp only [IntKind.wrap, IntKind.signed, IntKind.bits]; first | omega | go_num
      have z3 : ¬ (9223372036854775807 < s1.size + sd.size) := by omega
      have c1 : (0 : Int) ≤ (d : Int) + 1 := by omega
      have c2 : (d : Int) + 1 ≤ 10 := by omega
      have c3 : (d : Int) ≤ (d : Int) + 1 := by omega
      have c4 : ((d : Int) + 1).toNat = d + 1 := by omega
      clear hsd ih hs1 hs0 hv hd hSt ih1
      go_enter Tryd.func39, Tryd.ntmps39
      go_wp2_with fail
      refine rt_start [] (At St) 11 (by kernel_rfl) rfl ?_
      refine rt_free 0 (v := ?_) rfl (by kernel_rfl) (by kernel_rfl) (by kernel_rfl) (by kernel_rfl) (fun _ _ _ h => h) (by rfl) (fun _ => by first | assumption | exact HS0 _ rfl | exact HT.out _ (by repeat (first | exact Fr.refl _ _ | apply Fr.drew | refine Fr.alloc ?_ _))) ?_ ?_
      rotate_left 1
      · intro w; go_simp <;> with_reducible rfl
      try simp only [Act.put, List.setIfInBounds_toArray, List.set_cons_zero, List.set_cons_succ]
      refine rt_free 1 (v := ?_) rfl (by kernel_rfl) (by kernel_rfl) (by kernel_rfl) (by kernel_rfl) (fun _ _ _ h => h) (by rfl) (fun _ => by first | assumption | exact HS0 _ rfl | exact HT.out _ (by repeat (first | exact Fr.refl _ _ | apply Fr.drew | refine Fr.alloc ?_ _))) ?_ ?_
      rotate_left 1
      · intro w; go_simp <;> with_reducible rfl
      try simp only [Act.put, List.setIfInBounds_toArray, List.set_cons_zero, List.set_cons_succ]
      refine rt_free 3 (v := ?_) rfl (by kernel_rfl) (by kernel_rfl) (by kernel_rfl) (by kernel_rfl) (fun _ _ _ h => h) (by rfl) (fun _ => by first | assumption | exact HS0 _ rfl | exact HT.out _ (by repeat (first | exact Fr.refl _ _ | apply Fr.drew | refine Fr.alloc ?_ _))) ?_ ?_
      rotate_left 1
      · intro w; go_simp <;> with_reducible rfl
      try simp only [Act.put, List.setIfInBounds_toArray, List.set_cons_zero, List.set_cons_succ]
      refine rt_free 4 (v := ?_) rfl (by kernel_rfl) (by kernel_rfl) (by kernel_rfl) (by kernel_rfl) (fun _ _ _ h => h) (by rfl) (fun _ => by first | assumption | exact HS0 _ rfl | exact HT.out _ (by repeat (first | exact Fr.refl _ _ | apply Fr.drew | refine Fr.alloc ?_ _))) ?_ ?_
      rotate_left 1
      · intro w; go_simp <;> with_reducible rfl
      try simp only [Act.put, List.setIfInBounds_toArray, List.set_cons_zero, List.set_cons_succ]
      refine rt_free 5 (v := ?_) rfl (by kernel_rfl) (by kernel_rfl) (by kernel_rfl) (by kernel_rfl) (fun _ _ _ h => h) (by rfl) (fun _ => by first | assumption | exact HS0 _ rfl | exact HT.out _ (by repeat (first | exact Fr.refl _ _ | apply Fr.drew | refine Fr.alloc ?_ _))) ?_ ?_
      rotate_left 1
      · intro w; go_simp <;> with_reducible rfl
      try simp only [Act.put, List.setIfInBounds_toArray, List.set_cons_zero, List.set_cons_succ]
      refine rt_free 6 (v := ?_) rfl (by kernel_rfl) (by kernel_rfl) (by kernel_rfl) (by kernel_rfl) (fun _ _ _ h => h) (by rfl) (fun _ => by first | assumption | exact HS0 _ rfl | exact HT.out _ (by repeat (first | exact Fr.refl _ _ | apply Fr.drew | refine Fr.alloc ?_ _))) ?_ ?_
      rotate_left 1
      · intro w; go_simp <;> with_reducible rfl
      try simp only [Act.put, List.setIfInBounds_toArray, List.set_cons_zero, List.set_cons_succ]
      refine rt_free 7 (v := ?_) rfl (by kernel_rfl) (by kernel_rfl) (by kernel_rfl) (by kernel_rfl) (fun _ _ _ h => h) (by rfl) (fun _ => by first | assumption | exact HS0 _ rfl | exact HT.out _ (by repeat (first | exact Fr.refl _ _ | apply Fr.drew | refine Fr.alloc ?_ _))) ?_ ?_
      rotate_left 1
      · intro w; go_simp <;> with_reducible rfl
      try simp only [Act.put, List.setIfInBounds_toArray, List.set_cons_zero, List.set_cons_succ]
      refine rt_free 8 (v := ?_) rfl (by kernel_rfl) (by kernel_rfl) (by kernel_rfl) (by kernel_rfl) (fun _ _ _ h => h) (by rfl) (fun _ => by first | assumption | exact HS0 _ rfl | exact HT.out _ (by repeat (first | exact Fr.refl _ _ | apply Fr.drew | refine Fr.alloc ?_ _))) ?_ ?_
      rotate_left 1
      · intro w; go_simp <;> with_reducible rfl
      try simp only [Act.put, List.setIfInBounds_toArray, List.set_cons_zero, List.set_cons_succ]
      refine rt_one 2 rfl (by kernel_rfl) (fun K hK => ?_)
      go_simp
      refine (IH.out _).mono ?_
      rintro r w2 ⟨rfl, hF2⟩
      have HF2 := Lib.hid ((Fr.refl (fun _ => False) w).drew.trans hF2)
      have hT2 := HT.out _ HF2.out
      clear hF2
      go_wp2_with fail
      refine hK.out (At St) _ _ (fun _ h => h) (fun _ => by (assumption)) ?_
      clear hK K
      try simp only [Act.put, List.setIfInBounds_toArray, List.set_cons_zero, List.set_cons_succ]
      refine rt_free 9 (v := ?_) rfl (by kernel_rfl) (by kernel_rfl) (by kernel_rfl) (by kernel_rfl) (fun _ _ _ h => h) (by rfl) (fun _ => by first | assumption | exact HS0 _ rfl | exact HT.out _ (by repeat (first | exact Fr.refl _ _ | apply Fr.drew | refine Fr.alloc ?_ _))) ?_ ?_
      rotate_left 1
      · intro w; go_simp <;> with_reducible rfl
      try simp only [Act.put, List.setIfInBounds_toArray, List.set_cons_zero, List.set_cons_succ]
      refine rt_free 10 (v := ?_) rfl (by kernel_rfl) (by kernel_rfl) (by kernel_rfl) (by kernel_rfl) (fun _ _ _ h => h) (by rfl) (fun _ => by first | assumption | exact HS0 _ rfl | exact HT.out _ (by repeat (first | exact Fr.refl _ _ | apply Fr.drew | refine Fr.alloc ?_ _))) ?_ ?_
      rotate_left 1
      · intro w; go_simp <;> with_reducible rfl
      try simp only [Act.put, List.setIfInBounds_toArray, List.set_cons_zero, List.set_cons_succ]
      refine rt_done (by kernel_rfl) ?_
      go_wp2_with fail
      go_ret
      exact ⟨rfl, HF2.out⟩
set_option maxRecDepth 100000 in
set_option maxHeartbeats 400000 in
theorem dig_neg (u : Nat) (h1 : 1 ≤ u) (hu : u < 4611686018427387904) : ∀ (w : World), Calls Tryd.prog 39 #[.int .i64 (-(u : Int))] w fun r w' => r = .returned (.string ⟨(45 :: Lib.decDigits u).toArray⟩) ∧ Fr (fun _ => False) w w' := by
  induction u using Nat.strongRecOn with
  | _ u ih =>
    intro w
    obtain ⟨n, hn⟩ : ∃ n : Int, n = -(u : Int) := ⟨_, rfl⟩
    rw [← hn]
    have hnb : -4611686018427387904 < n := by omega
    have hnb2 : n < 0 := by omega
    have t2 : decide (n < 0) = true := decide_eq_true (by omega)
    by_cases h10 : u < 10
    · have t1 : decide (n < -9) = false := decide_eq_false (by omega)
      have e1 : -n = (u : Int) := by omega
      have hd := dig_pos u hu
      have hsz := dig_len u hu
      have hcat := cat_dig (Lib.decDigits u) 45
      obtain ⟨s1, hs1⟩ : ∃ s, s = (⟨(Lib.decDigits u).toArray⟩ : ByteArray) := ⟨_, rfl⟩
      obtain ⟨s0, hs0⟩ : ∃ s, s = (⟨(45 :: Lib.decDigits u).toArray⟩ : ByteArray) := ⟨_, rfl⟩
      rw [← hs1] at hd hcat hsz
      rw [← hs0] at hcat ⊢
      have w1 : IntKind.i64.wrap (u : Int) = (u : Int) := by simp only [IntKind.wrap, IntKind.signed, IntKind.bits]; first | omega | go_num
      have HD := Lib.hid hd
      have HC := Lib.hid hcat
      clear hs1 hs0 ih hd hcat hn
      go_enter Tryd.func39, Tryd.ntmps39
      go_wp2_with fail
      refine (HD.out _).mono ?_
      rintro r w2 ⟨rfl, hF2⟩
      go_wp2_with fail
      go_ret
      refine ⟨?_, hF2⟩
      rw [← HC.out]
      rfl
    · have t1 : decide (n < -9) = true := decide_eq_true (by omega)
      have ih1 := ih (u / 10) (by omega) (by omega) (by omega)
      have hsz := dig_len (u / 10) (by omega)
      have hcat := dig_cat (45 :: Lib.decDigits (u / 10)) (UInt8.ofNat (48 + u % 10))
      rw [List.cons_append, ← decDigits_add u h10] at hcat
      obtain ⟨s1, hs1⟩ : ∃ s, s = (⟨(45 :: Lib.decDigits (u / 10)).toArray⟩ : ByteArray) := ⟨_, rfl⟩
      obtain ⟨s0, hs0⟩ : ∃ s, s = (⟨(45 :: Lib.decDigits u).toArray⟩ : ByteArray) := ⟨_, rfl⟩
      have hsz1 : s1.size ≤ 22 := by rw [hs1]; exact Nat.succ_le_succ hsz
      rw [← hs1] at ih1 hcat
      rw [← hs0] at hcat ⊢
      obtain ⟨v, hv⟩ : ∃ v, v = u / 10 := ⟨_, rfl⟩
      obtain ⟨d, hd⟩ : ∃ d, d = u % 10 := ⟨_, rfl⟩
      have hd10 : d < 10 := by omega
      have e1 : n.tdiv 10 = -(v : Int) := by rw [hn, hv, Int.neg_tdiv]; rfl
      have e2 : n.tmod 10 = -(d : Int) := by rw [hn, hd, Int.neg_tmod]; rfl
      have hdo := dig_one d hd10
      rw [← hv] at ih1
      rw [← hd] at hcat
      have hvb : v < 4611686018427387904 := by omega
      obtain ⟨m, hm⟩ : ∃ m : Int, m = -(v : Int) := ⟨_, rfl⟩
      obtain ⟨q, hq⟩ : ∃ m : Int, m = -(d : Int) := ⟨_, rfl⟩
      rw [← hm] at e1 ih1
      rw [← hq] at e2
      have w1 : IntKind.i64.wrap m = m := by simp only [IntKind.wrap, IntKind.signed, IntKind.bits]; first | omega | go_num
      have e3 : -q = (d : Int) := by omega
      have w2 : IntKind.i64.wrap (d : Int) = (d : Int) := by simp only [IntKind.wrap, IntKind.signed, IntKind.bits]; first | omega | go_num
      have hmb : -4611686018427387904 < m := by omega
      have hmb2 : m ≤ 0 := by omega
      have hqb : -10 < q := by omega
      have hqb2 : q ≤ 0 := by omega
      obtain ⟨sd, hsd⟩ : ∃ s, s = (⟨#[UInt8.ofNat (48 + d)]⟩ : ByteArray) := ⟨_, rfl⟩
      have z1 : sd.size ≤ 1 := by rw [hsd]; exact Nat.le_refl 1
      rw [← hsd] at hcat hdo
      have z3 : ¬ (9223372036854775807 < s1.size + sd.size) := by omega
      have IH := Lib.hid ih1
      have HD := Lib.hid hdo
      have HC := Lib.hid hcat
      clear ih hs1 hs0 hv hd ih1 hdo hcat hm hq hsd hsz hn
      go_enter Tryd.func39, Tryd.ntmps39
      go_wp2_with fail
      refine (IH.out _).mono ?_
      rintro r w2 ⟨rfl, hF2⟩
      go_wp2_with fail
      refine (HD.out _).mono ?_
      rintro r w3 ⟨rfl, hF3⟩
      go_wp2_with fail
      go_ret
      refine ⟨?_, hF2.trans hF3⟩
      rw [← HC.out]
      rfl
theorem dig_all (n : Int) (h0 : -4611686018427387904 < n) (h1 : n < 4611686018427387904) (w : World) : Calls Tryd.prog 39 #[.int .i64 n] w fun r w' => r = .returned (.string ⟨(Lib.itoa n).toArray⟩) ∧ Fr (fun _ => False) w w' := by
  rcases Int.lt_or_le n 0 with h | h
  · obtain ⟨u, rfl⟩ : ∃ u : Nat, n = -(u : Int) := ⟨n.natAbs, by omega⟩
    rw [Lib.itoa_neg u (by omega)]
    exact dig_neg u (by omega) (by omega) w
  · obtain ⟨u, rfl⟩ : ∃ u : Nat, n = (u : Int) := ⟨n.natAbs, by omega⟩
    rw [Lib.itoa_nonneg]
    exact dig_pos u (by omega) w
end Go.Proofs.YtmldjemjjpibmaaDoor
