/- The functions of layer 9 (wire) that read, walked. -/
import Derived.Test.YtlpigldogglmcaaWireW
set_option linter.unusedVariables false
set_option linter.unusedSimpArgs false
namespace Go.Proofs.Ytlpigldogglmcaa
open Go.RowKit
open Go.Proofs.YtlpigldogglmcaaW.PrintWords

def Byt (xs : List Int) : Prop := ∀ x ∈ xs, 0 ≤ x ∧ x ≤ 255

theorem and127 {b : Int} (h0 : 0 ≤ b) (h1 : b ≤ 255) : bits BinOp.and .u8 b 127 = ((b.toNat % 128 : Nat) : Int) := by
  have h := u8_and_nat b.toNat 127 (by omega) (by omega)
  rw [show ((b.toNat : Nat) : Int) = b from by omega] at h
  rw [show ((127 : Nat) : Int) = 127 from rfl] at h
  rw [h]
  have : b.toNat &&& 127 = b.toNat % 128 := Nat.and_two_pow_sub_one_eq_mod b.toNat 7
  omega
theorem wrap_u64 {n : Nat} (h : n < 18446744073709551616) : IntKind.u64.wrap (n : Int) = n := by
  simp [IntKind.wrap, IntKind.bits, IntKind.signed]
  omega
theorem part_lt {k q b : Nat} (hq : q < 2 ^ (7 * k)) (hb : b < 128) (h : k ≤ 8 ∨ (k = 9 ∧ b ≤ 1)) : q + b * 2 ^ (7 * k) < 18446744073709551616 := by
  rcases h with h | ⟨rfl, hb1⟩
  · have h1 := step_lt hq hb
    have h2 : 2 ^ (7 * (k + 1)) ≤ 2 ^ 63 := Nat.pow_le_pow_right (by omega) (by omega)
    omega
  · have h1 : b * 2 ^ (7 * 9) ≤ 1 * 2 ^ (7 * 9) := Nat.mul_le_mul_right _ hb1
    omega
theorem getval {k q : Nat} {b : Int} (h0 : 0 ≤ b) (h1 : b ≤ 255) (hq : q < 2 ^ (7 * k)) (h : k ≤ 8 ∨ (k = 9 ∧ b ≤ 1)) :
    bits BinOp.or .u64 (q : Int) (IntKind.u64.wrap (IntKind.u64.wrap (bits BinOp.and .u8 b 127) * 2 ^ (7 * k))) = ((q + b.toNat % 128 * 2 ^ (7 * k) : Nat) : Int) := by
  have hb : b.toNat % 128 < 128 := by omega
  have hlt := part_lt hq hb (by omega)
  have e : ((b.toNat % 128 : Nat) : Int) * 2 ^ (7 * k) = ((b.toNat % 128 * 2 ^ (7 * k) : Nat) : Int) := by simp
  rw [and127 h0 h1, wrap_u64 (by omega), e, wrap_u64 (by omega), bits_or_u64_nat _ _ (by omega) (by omega), step_or hq]

set_option maxRecDepth 100000 in
set_option maxHeartbeats 1000000 in
theorem wire_get (A : Option Addr) (xs : List Int) (c : Nat) (w : World) (hr : RdB w A xs) (hx : Byt xs) (hl : xs.length ≤ 140737488355328) :
    Calls Try.prog 40 #[.slice A xs.length c] w fun r w' => r = .returned (.tuple #[.int .u64 (getR xs 0 0).1, .int .i64 (getR xs 0 0).2.1, .int .i64 (getR xs 0 0).2.2]) ∧ w = w' := by
  go_enter Try.func40, Try.ntmps40
  go_wp2_with fail
  go_loop [5, 10] (fun n i => ∃ (k q : Nat), k ≤ xs.length ∧ i = .int .i64 k ∧ n = .int .u64 q ∧ Hid (k ≤ 9 ∧ q < 2 ^ (7 * k) ∧ getR (xs.drop k) k q = getR xs 0 0)) (fun _ i => xs.length - (intOf i).toNat)
  case atStart => exact ⟨0, 0, by omega, rfl, rfl, ⟨by omega, by simp, rfl⟩⟩
  case round =>
    obtain ⟨k, q, hk, rfl, rfl, hrel⟩ := hrel
    rcases Nat.lt_or_ge k xs.length with hlt | hge
    · obtain ⟨bb, off, rfl, hc⟩ := RdB.at_ hr hlt
      obtain ⟨h0, h1⟩ := hx _ (rd_mem hlt)
      obtain ⟨hk9, hq, he⟩ := hrel.out
      rw [drop_rd hlt] at he
      have HE := Lib.hid he
      have HQ := Lib.hid hq
      clear he hq hrel hx hr
      generalize rd xs ↑k = b at *
      rcases Nat.lt_or_ge k 9 with hk8 | hk8
      rotate_left
      · obtain rfl : k = 9 := by omega
        rcases Int.lt_or_le 1 b with hb | hb
        · go_wp2_with fail
          go_ret3
          have he := HE.out
          simp only [getR] at he
          rw [if_pos ⟨by omega, hb⟩] at he
          rw [← he]
          exact ⟨rfl, rfl⟩
        · have hv := getval h0 h1 HQ.out (.inr ⟨by omega, hb⟩)
          have HV := Lib.hid hv
          clear hv
          by_cases hb0 : b = 0
          · subst hb0
            go_wp2_with fail
            go_ret3
            have he := HE.out
            simp only [getR] at he
            rw [if_neg (by omega), if_neg (by omega), if_pos (by first | omega | exact ⟨trivial, by omega⟩)] at he
            rw [← he]
            exact ⟨rfl, rfl⟩
          · go_wp2_with fail
            go_ret3
            have he := HE.out
            simp only [getR] at he
            rw [if_neg (by omega), if_neg (by omega), if_neg (by omega)] at he
            rw [← he]
            refine ⟨?_, rfl⟩
            show Ending.returned (.tuple #[.int .u64 _, .int .i64 _, .int .i64 _]) = _
            rw [← HV.out]
            rfl
      · have hk7 : k ≤ 8 := by omega
        have hv := getval h0 h1 HQ.out (.inl hk7)
        have HV := Lib.hid hv
        clear hv
        rcases Int.lt_or_le b 128 with hb | hb
        · by_cases hb0 : b = 0
          · subst hb0
            rcases Nat.lt_or_ge 0 k with hk0 | hk0
            rotate_left
            · go_wp2_with fail
              go_ret3
              have he := HE.out
              simp only [getR] at he
              rw [if_neg (by omega), if_neg (by omega), if_neg (by omega)] at he
              rw [← he]
              refine ⟨?_, rfl⟩
              show Ending.returned (.tuple #[.int .u64 _, .int .i64 _, .int .i64 _]) = _
              rw [← HV.out]
              rfl
            · go_wp2_with fail
              go_ret3
              have he := HE.out
              simp only [getR] at he
              rw [if_neg (by omega), if_neg (by omega), if_pos (by first | omega | exact ⟨trivial, by omega⟩)] at he
              rw [← he]
              exact ⟨rfl, rfl⟩
          · go_wp2_with fail
            go_ret3
            have he := HE.out
            simp only [getR] at he
            rw [if_neg (by omega), if_neg (by omega), if_neg (by omega)] at he
            rw [← he]
            refine ⟨?_, rfl⟩
            show Ending.returned (.tuple #[.int .u64 _, .int .i64 _, .int .i64 _]) = _
            rw [← HV.out]
            rfl
        · go_wp2_with fail
          refine ⟨⟨k + 1, q + b.toNat % 128 * 2 ^ (7 * k), by omega, by go_num, congrArg _ HV.out, ?_⟩, by simp [intOf]; omega⟩
          refine ⟨by omega, step_lt HQ.out (by omega), ?_⟩
          have he := HE.out
          simp only [getR] at he
          rw [if_neg (by omega), if_pos hb] at he
          exact he
    · obtain rfl : k = xs.length := by omega
      go_wp2_with fail
      go_ret3
      obtain ⟨_, _, he⟩ := hrel.out
      rw [List.drop_length] at he
      rw [← he]
      exact ⟨rfl, rfl⟩

theorem orlow {q : Nat} {b : Int} (h0 : 0 ≤ b) (h1 : b ≤ 255) (hq : q < 72057594037927936) :
    bits BinOp.or .u64 (IntKind.u64.wrap ((q : Int) * 256)) b = ((q * 256 + b.toNat : Nat) : Int) := by
  have e : (q : Int) * 256 = ((q * 256 : Nat) : Int) := by simp
  rw [e, wrap_u64 (by omega)]
  have h := bits_or_u64_nat (q * 256) b.toNat (by omega) (by omega)
  rw [show ((b.toNat : Nat) : Int) = b from by omega] at h
  rw [h]
  have h2 := Nat.two_pow_add_eq_or_of_lt (i := 8) (b := b.toNat) (by omega) q
  rw [show 2 ^ 8 * q = q * 256 from by omega] at h2
  rw [h2]

set_option maxRecDepth 100000 in
set_option maxHeartbeats 1000000 in
theorem wire_getEight_no (A : Option Addr) (xs : List Int) (c : Nat) (w : World) (hl : xs.length < 8) :
    Calls Try.prog 43 #[.slice A xs.length c] w fun r w' => r = .returned (.tuple #[.int .u64 0, .int .i64 4]) ∧ w = w' := by
  go_enter Try.func43, Try.ntmps43
  go_wp2_with fail
  go_ret2
  exact ⟨rfl, rfl⟩
set_option maxRecDepth 100000 in
set_option maxHeartbeats 1000000 in
theorem wire_getEight (A : Option Addr) (xs : List Int) (c : Nat) (w : World) (hr : RdB w A xs) (hx : Byt xs) (hl : xs.length ≤ 140737488355328) (hc : xs.length ≤ c) (h8 : 8 ≤ xs.length) :
    Calls Try.prog 43 #[.slice A xs.length c] w fun r w' => r = .returned (.tuple #[.int .u64 (beVal (xs.take 8)), .int .i64 0]) ∧ w = w' := by
  obtain ⟨ys, hcut, hys⟩ := cut_to8 A c xs 8 h8 hc
  replace hcut : ∀ W : World, (Instr.slice 39 (.slice A xs.length c) none (some (.int .i64 8)) none).run Try.prog W = .ok (.slice A ys.length c) W := hcut
  have hry := hys.out.2.2 w hr
  have hyl : ys.length ≤ 8 := by rw [hys.out.2.1]; omega
  have hyl2 : 8 ≤ ys.length := by rw [hys.out.2.1]; omega
  have hby : Byt ys := by rw [hys.out.1]; exact fun x h => hx x (List.mem_of_mem_take h)
  have he : beVal (xs.take 8) = beVal ys := by rw [hys.out.1]
  rw [he]
  clear he hys hx hr hc
  go_enter Try.func43, Try.ntmps43
  go_wp2_with fail
  go_loop [4, 13] (fun n i => ∃ (k q : Nat), k ≤ ys.length ∧ i = .int .i64 k ∧ n = .int .u64 q ∧ Hid (q = beVal (ys.take k))) (fun _ i => ys.length - (intOf i).toNat)
  case atStart => exact ⟨0, 0, by omega, rfl, rfl, rfl⟩
  case round =>
    obtain ⟨k, q, hk, rfl, rfl, hq⟩ := hrel
    rcases Nat.lt_or_ge k ys.length with hlt | hge
    · obtain ⟨bb, off, rfl, hc⟩ := RdB.at_ hry hlt
      obtain ⟨h0, h1⟩ := hby _ (rd_mem hlt)
      have hql : q < 72057594037927936 := by
        have h2 := beVal_lt (ys.take k) (fun x h => hby x (List.mem_of_mem_take h))
        rw [← hq.out, List.length_take, Nat.min_eq_left hk] at h2
        have : 256 ^ k ≤ 256 ^ 7 := Nat.pow_le_pow_right (by omega) (by omega)
        omega
      have HV := Lib.hid (orlow h0 h1 hql)
      have HN : Hid (beVal (ys.take (k + 1)) = q * 256 + (rd ys k).toNat) := by
        have h2 := take_rd hlt
        show _ = _
        rw [h2, beVal_snoc, ← hq.out]
      clear hq hry hby hcut hql
      generalize rd ys ↑k = b at *
      go_wp2_with fail
      exact ⟨⟨k + 1, q * 256 + b.toNat, by omega, by go_num, congrArg _ HV.out, HN.out.symm⟩, by simp [intOf]; omega⟩
    · obtain rfl : k = ys.length := by omega
      go_wp2_with fail
      go_ret2
      rw [List.take_length] at hq
      rw [← hq.out]
      exact ⟨rfl, rfl⟩

set_option maxRecDepth 100000 in
set_option maxHeartbeats 1000000 in
theorem wire_getText (A : Option Addr) (xs : List Int) (c : Nat) (most : Int) (w : World) (hr : RdB w A xs) (hx : Byt xs) (hl : xs.length ≤ 140737488355328) (hc : xs.length ≤ c) (hm0 : -9223372036854775808 ≤ most) (hm1 : most ≤ 9223372036854775807) :
    Calls Try.prog 42 #[.slice A xs.length c, .int .i64 most] w fun r w' => r = .returned (.tuple #[.string (strOfNums (textR xs most).1), .int .i64 (textR xs most).2.1, .int .i64 (textR xs most).2.2]) ∧ w = w' := by
  have HL := Lib.hid (getR_lt xs 0 0 (by omega) (by simp) hx)
  have HE := Lib.hid (getR_err xs 0 0)
  have HO := fun m k h => Lib.hid (getR_ok xs 0 0 m k h)
  have HG := Lib.hid (wire_get A xs c w hr hx hl)
  have HT : Hid (textR xs most = if (getR xs 0 0).2.2 ≠ 0 then ([], 0, (getR xs 0 0).2.2)
    else if most < 0 ∨ most < (getR xs 0 0).1 then ([], 0, 18)
    else if xs.length - (getR xs 0 0).2.1 < (getR xs 0 0).1 then ([], 0, 4)
    else ((xs.take ((getR xs 0 0).2.1 + (getR xs 0 0).1)).drop (getR xs 0 0).2.1, (getR xs 0 0).2.1 + (getR xs 0 0).1, 0)) := rfl
  generalize textR xs most = T at HT ⊢
  generalize hg : getR xs 0 0 = g at HL HE HO HG HT
  obtain ⟨m, k, e⟩ := g
  clear hg
  simp only at HL HE HG HT
  go_enter Try.func42, Try.ntmps42
  go_wp2_with fail
  refine HG.out.mono ?_
  rintro r w1 ⟨rfl, rfl⟩
  by_cases he : e = 0
  · subst he
    obtain ⟨_, hk⟩ := (HO m k rfl).out
    simp only [Nat.zero_add] at hk
    clear HE HO HG
    rcases Int.lt_or_le most 0 with h1 | h1
    · go_wp2_with fail
      go_ret3
      rw [HT.out, if_neg (by simp), if_pos (.inl h1)]
      exact ⟨rfl, rfl⟩
    · rcases Int.lt_or_le most m with h2 | h2
      · go_wp2_with fail
        go_ret3
        rw [HT.out, if_neg (by simp), if_pos (.inr h2)]
        exact ⟨rfl, rfl⟩
      · rcases Nat.lt_or_ge (xs.length - k) m with h3 | h3
        · go_wp2_with fail
          go_ret3
          rw [HT.out, if_neg (by simp), if_neg (by omega), if_pos h3]
          exact ⟨rfl, rfl⟩
        · obtain ⟨A', ys, hcut, hys⟩ := cut_mid8 A c xs k (k + m) (by omega) (by omega) hc
          simp only [Int.natCast_add] at hcut
          have hcv := conv_str8 (c := c - k) (hys.out.2.2 w hr)
          have HY := Lib.hid hys.out.1
          clear hys hr hx
          go_wp2_with fail
          go_ret3
          rw [HT.out, if_neg (by simp), if_neg (by omega), if_neg (by omega), HY.out]
          exact ⟨rfl, rfl⟩
  · obtain ⟨e1, e2⟩ := HE.out he
    subst e1 e2
    clear HE HO HG
    go_wp2_with fail
    go_ret3
    rw [HT.out, if_pos he]
    exact ⟨rfl, rfl⟩
end Go.Proofs.Ytlpigldogglmcaa
