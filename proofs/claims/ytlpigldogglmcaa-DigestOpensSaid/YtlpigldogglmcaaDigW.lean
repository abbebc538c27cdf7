/- Digests: what they compute (plain), and the functions digest.Of, digest.Mix, digest.Seal and the document's Of, each walked once. -/
import Derived.Test.YtlpigldogglmcaaWireR
import Derived.Test.YtlpigldogglmcaaWireQ
import Derived.Laws.BitsAllLaws
set_option linter.unusedVariables false
set_option linter.unusedSimpArgs false
namespace Go.Proofs.Ytlpigldogglmcaa
open Go.RowKit
open Go.Proofs.YtlpigldogglmcaaW.PrintWords

/-- One round of the digest. -/
def fnv1 (h x : Nat) : Nat := (h ^^^ x) * 1099511628211 % 18446744073709551616
def fnv (h : Nat) : List Int → Nat
  | [] => h
  | x :: xs => fnv (fnv1 h x.toNat) xs
def dOf (xs : List Int) : Nat := fnv 14695981039346656037 xs
theorem fnv1_lt (h x : Nat) : fnv1 h x < 18446744073709551616 := Nat.mod_lt _ (by omega)
theorem fnv_lt : ∀ (xs : List Int) (h : Nat), h < 18446744073709551616 → fnv h xs < 18446744073709551616
  | [], h, hh => hh
  | x :: xs, h, _ => fnv_lt xs _ (fnv1_lt h _)
theorem dOf_lt (xs : List Int) : dOf xs < 18446744073709551616 := fnv_lt xs _ (by omega)
theorem fnv_append (xs ys : List Int) : ∀ h, fnv h (xs ++ ys) = fnv (fnv h xs) ys := by
  induction xs with
  | nil => intro h; rfl
  | cons x xs ih => intro h; exact ih _

theorem xor_u64 (h x : Nat) (hh : h < 18446744073709551616) (hx : x < 18446744073709551616) : bits .xor .u64 (h : Int) (x : Int) = ((h ^^^ x : Nat) : Int) := u64_xor_nat h x hh hx
theorem mul_u64 (n : Nat) : IntKind.u64.wrap ((n : Int) * 1099511628211) = ((n * 1099511628211 % 18446744073709551616 : Nat) : Int) := by
  simp [IntKind.wrap, IntKind.bits, IntKind.signed]
theorem fnv_step (h : Nat) (x : Int) (hh : h < 18446744073709551616) (h0 : 0 ≤ x) (h1 : x ≤ 255) :
    IntKind.u64.wrap (bits .xor .u64 (h : Int) x * 1099511628211) = ((fnv1 h x.toNat : Nat) : Int) := by
  have e : x = ((x.toNat : Nat) : Int) := by omega
  rw [e, xor_u64 h x.toNat hh (by omega), mul_u64]
  rfl
theorem and255 (n : Nat) (hn : n < 18446744073709551616) : bits .and .u64 (n : Int) 255 = ((n % 256 : Nat) : Int) := by
  have h := u64_and_nat n 255 hn (by omega)
  rw [show (255 : Nat) = 2 ^ 8 - 1 from rfl, Nat.and_two_pow_sub_one_eq_mod] at h
  exact h
set_option maxRecDepth 100000 in
theorem dig_of (A : Option Addr) (xs : List Int) (c : Nat) (w : World) (hr : RdB w A xs) (hx : Byt xs) (hl : xs.length ≤ 140737488355328) :
    Calls Try.prog 44 #[.slice A xs.length c] w fun r w' => r = .returned (.int .u64 (dOf xs)) ∧ w = w' := by
  go_enter Try.func44, Try.ntmps44
  go_wp2_with fail
  go_loop [3, 8] (fun n i => ∃ (k q : Nat), k ≤ xs.length ∧ i = .int .i64 k ∧ n = .int .u64 q ∧ Hid (q < 18446744073709551616 ∧ fnv q (xs.drop k) = dOf xs)) (fun _ i => xs.length - (intOf i).toNat)
  case atStart => exact ⟨0, 14695981039346656037, by omega, rfl, rfl, ⟨by omega, rfl⟩⟩
  case round =>
    obtain ⟨k, q, hk, rfl, rfl, hrel⟩ := hrel
    rcases Nat.lt_or_ge k xs.length with hlt | hge
    · obtain ⟨bb, off, rfl, hc⟩ := RdB.at_ hr hlt
      obtain ⟨h0, h1⟩ := hx _ (rd_mem hlt)
      obtain ⟨hq, he⟩ := hrel.out
      rw [drop_rd hlt] at he
      have HE := Lib.hid he
      have hst := fnv_step q _ hq h0 h1
      clear he hq hrel hx hr
      generalize rd xs ↑k = b at *
      generalize hg : fnv1 q b.toNat = q' at *
      have HG := Lib.hid hg
      clear hg
      go_wp2_with fail
      exact ⟨⟨k + 1, q', by omega, by simp, rfl, by rw [← HG.out]; exact fnv1_lt _ _, by have := HE.out; rw [← HG.out]; exact this⟩, by simp [intOf]; omega⟩
    · obtain rfl : k = xs.length := by omega
      go_wp2_with fail
      go_ret
      obtain ⟨hq, he⟩ := hrel.out
      rw [List.drop_length] at he
      rw [← he]
      exact ⟨rfl, rfl⟩

set_option maxRecDepth 100000 in
theorem ref_of (A : Option Addr) (xs : List Int) (c : Nat) (w : World) (hr : RdB w A xs) (hx : Byt xs) (hl : xs.length ≤ 140737488355328) :
    Calls Try.prog 27 #[.slice A xs.length c] w fun r w' => r = .returned (.int .u64 (dOf xs)) ∧ w = w' := by
  go_enter Try.func27, Try.ntmps27
  go_wp2_with fail
  go_loop [3, 4] (fun n i => ∃ (k q : Nat), k ≤ xs.length ∧ i = .int .i64 k ∧ n = .int .u64 q ∧ Hid (q < 18446744073709551616 ∧ fnv q (xs.drop k) = dOf xs)) (fun _ i => xs.length - (intOf i).toNat)
  case atStart => exact ⟨0, 14695981039346656037, by omega, rfl, rfl, ⟨by omega, rfl⟩⟩
  case round =>
    obtain ⟨k, q, hk, rfl, rfl, hrel⟩ := hrel
    rcases Nat.lt_or_ge k xs.length with hlt | hge
    · obtain ⟨bb, off, rfl, hc⟩ := RdB.at_ hr hlt
      obtain ⟨h0, h1⟩ := hx _ (rd_mem hlt)
      obtain ⟨hq, he⟩ := hrel.out
      rw [drop_rd hlt] at he
      have HE := Lib.hid he
      have hst := fnv_step q _ hq h0 h1
      clear he hq hrel hx hr
      generalize rd xs ↑k = b at *
      generalize hg : fnv1 q b.toNat = q' at *
      have HG := Lib.hid hg
      clear hg
      go_wp2_with fail
      exact ⟨⟨k + 1, q', by omega, by simp, rfl, by rw [← HG.out]; exact fnv1_lt _ _, by have := HE.out; rw [← HG.out]; exact this⟩, by simp [intOf]; omega⟩
    · obtain rfl : k = xs.length := by omega
      go_wp2_with fail
      go_ret
      obtain ⟨hq, he⟩ := hrel.out
      rw [List.drop_length] at he
      rw [← he]
      exact ⟨rfl, rfl⟩

theorem mix_val (x q k : Nat) (hk : k < 8) (hq : q < 18446744073709551616) (hx : x < 18446744073709551616) :
    IntKind.u64.wrap (bits .xor .u64 (q : Int) (bits .and .u64 ((x : Int) / 2 ^ (56 - 8 * k)) 255) * 1099511628211) = ((fnv1 q (x / 256 ^ (7 - k) % 256) : Nat) : Int) := by
  have e : (x : Int) / 2 ^ (56 - 8 * k) = ((x / 256 ^ (7 - k) : Nat) : Int) := by
    have e2 : (2 : Int) ^ (56 - 8 * k) = ((256 ^ (7 - k) : Nat) : Int) := by
      rw [show 56 - 8 * k = 8 * (7 - k) from by omega, Int.pow_mul]
      simp
    rw [e2]
    rfl
  rw [e, and255 _ (Nat.lt_of_le_of_lt (Nat.div_le_self _ _) hx), xor_u64 _ _ hq (by omega), mul_u64]
  rfl
theorem mix_to (x k : Nat) (hk : k < 8) : beTo x (8 - k) = ((x / 256 ^ (7 - k) % 256 : Nat) : Int) :: beTo x (8 - (k + 1)) := by
  rw [show 8 - k = (7 - k) + 1 from by omega, show 8 - (k + 1) = 7 - k from by omega]
  rfl
theorem ixm0 (e f : Int) (w : World) : (Instr.index 117 (.agg #[.int .u64 e, .int .u64 f]) (.int .i64 0)).run Try.prog w = .ok (.int .u64 e) w := by kernel_rfl
theorem ixm1 (e f : Int) (w : World) : (Instr.index 117 (.agg #[.int .u64 e, .int .u64 f]) (.int .i64 1)).run Try.prog w = .ok (.int .u64 f) w := by kernel_rfl
set_option maxRecDepth 100000 in
theorem dig_mix (x y : Nat) (w : World) (hx : x < 18446744073709551616) (hy : y < 18446744073709551616) :
    Calls Try.prog 45 #[.int .u64 x, .int .u64 y] w fun r w' => r = .returned (.int .u64 (dOf (be8 x ++ be8 y))) ∧ w = w' := by
  go_enter Try.func45, Try.ntmps45
  go_wp2_with fail
  have i0 := ixm0 x y
  have i1 := ixm1 x y
  refine wp_loop_rounds 3 ?_
  rw [rounds_succ]
  go_wp2_with fail
  go_loop [5, 15] (fun n i => ∃ (k q : Nat), k ≤ 8 ∧ i = .int .i64 k ∧ n = .int .u64 q ∧ Hid (q < 18446744073709551616 ∧ fnv q (beTo x (8 - k) ++ be8 y) = dOf (be8 x ++ be8 y))) (fun _ i => 8 - (intOf i).toNat)
  case atStart => exact ⟨0, 14695981039346656037, by omega, rfl, rfl, ⟨by omega, rfl⟩⟩
  case round =>
    obtain ⟨k, q, hk, rfl, rfl, hrel⟩ := hrel
    rcases Nat.lt_or_ge k 8 with hlt | hge
    · go_wp2_with fail
      obtain ⟨hq, he⟩ := hrel.out
      rw [mix_to x k hlt] at he
      exact ⟨⟨k + 1, fnv1 q (x / 256 ^ (7 - k) % 256), by omega, rfl, by rw [mix_val x q k hlt hq (by assumption)], fnv1_lt _ _, by rw [← he]; rfl⟩, by simp [intOf]; omega⟩
    · obtain rfl : k = 8 := by omega
      obtain ⟨hq, he⟩ := hrel.out
      simp only [Nat.sub_self, beTo, List.nil_append] at he
      have HE := Lib.hid he
      have HQ := Lib.hid hq
      clear he hq hrel
      go_wp2_with fail
      rw [rounds_succ]
      go_wp2_with fail
      go_loop [5, 15] (fun n i => ∃ (k q : Nat), k ≤ 8 ∧ i = .int .i64 k ∧ n = .int .u64 q ∧ Hid (q < 18446744073709551616 ∧ fnv q (beTo y (8 - k)) = dOf (be8 x ++ be8 y))) (fun _ i => 8 - (intOf i).toNat)
      case atStart => exact ⟨0, q, by omega, rfl, rfl, ⟨HQ.out, HE.out⟩⟩
      case round =>
        obtain ⟨k, q, hk, rfl, rfl, hrel⟩ := hrel
        rcases Nat.lt_or_ge k 8 with hlt | hge
        · go_wp2_with fail
          obtain ⟨hq, he⟩ := hrel.out
          rw [mix_to y k hlt] at he
          exact ⟨⟨k + 1, fnv1 q (y / 256 ^ (7 - k) % 256), by omega, rfl, by rw [mix_val y q k hlt hq (by assumption)], fnv1_lt _ _, by rw [← he]; rfl⟩, by simp [intOf]; omega⟩
        · obtain rfl : k = 8 := by omega
          obtain ⟨hq, he⟩ := hrel.out
          simp only [Nat.sub_self, beTo, List.nil_append] at he
          have HEE := Lib.hid he
          clear he hq hrel HE HQ
          simp only [fnv] at HEE
          go_wp2_with fail
          rw [rounds_succ]
          go_wp2_with fail
          go_ret
          rw [HEE.out]
          exact ⟨rfl, rfl⟩
end Go.Proofs.Ytlpigldogglmcaa
