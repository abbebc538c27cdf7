/- Texts of Cod, merged (2 of 27): WireG, WireR, WireQ, RealP. -/
import Derived.Test.YtelfpnpplknlpaaGCod1
import Ieee.Arith
set_option linter.unusedVariables false
set_option linter.unusedSimpArgs false
/- The functions of layer 9 (wire) that read, walked. -/
namespace Go.Proofs.Ytelfpnpplknlpaa
open Go.RowKit
open Go.Proofs.YtelfpnpplknlpaaW.PrintWords

def Byt (xs : List Int) : Prop := ∀ x ∈ xs, 0 ≤ x ∧ x ≤ 255

theorem and127 {b : Int} (h0 : 0 ≤ b) (h1 : b ≤ 255) : bits BinOp.and .u8 b 127 = ((b.toNat % 128 : Nat) : Int) := by
  have h := u8_and_nat b.toNat 127 (by omega) (by omega)
  rw [show ((b.toNat : Nat) : Int) = b from by omega] at h
  rw [show ((127 : Nat) : Int) = 127 from rfl] at h
  rw [h]
  have : b.toNat &&& 127 = b.toNat % 128 := Nat.and_two_pow_sub_one_eq_mod b.toNat 7
  omega
theorem wrap_u64 {n : Nat} (h : n < 18446744073709551616) : IntKind.u64.wrap (n : Int) = n := by
  simp [IntKind.wrap, IntKind.bits, IntKind.signed]
  omega
theorem part_lt {k q b : Nat} (hq : q < 2 ^ (7 * k)) (hb : b < 128) (h : k ≤ 8 ∨ (k = 9 ∧ b ≤ 1)) : q + b * 2 ^ (7 * k) < 18446744073709551616 := by
  rcases h with h | ⟨rfl, hb1⟩
  · have h1 := step_lt hq hb
    have h2 : 2 ^ (7 * (k + 1)) ≤ 2 ^ 63 := Nat.pow_le_pow_right (by omega) (by omega)
    omega
  · have h1 : b * 2 ^ (7 * 9) ≤ 1 * 2 ^ (7 * 9) := Nat.mul_le_mul_right _ hb1
    omega
theorem getval {k q : Nat} {b : Int} (h0 : 0 ≤ b) (h1 : b ≤ 255) (hq : q < 2 ^ (7 * k)) (h : k ≤ 8 ∨ (k = 9 ∧ b ≤ 1)) :
    bits BinOp.or .u64 (q : Int) (IntKind.u64.wrap (IntKind.u64.wrap (bits BinOp.and .u8 b 127) * 2 ^ (7 * k))) = ((q + b.toNat % 128 * 2 ^ (7 * k) : Nat) : Int) := by
  have hb : b.toNat % 128 < 128 := by omega
  have hlt := part_lt hq hb (by omega)
  have e : ((b.toNat % 128 : Nat) : Int) * 2 ^ (7 * k) = ((b.toNat % 128 * 2 ^ (7 * k) : Nat) : Int) := by simp
  rw [and127 h0 h1, wrap_u64 (by omega), e, wrap_u64 (by omega), bits_or_u64_nat _ _ (by omega) (by omega), step_or hq]

set_option maxRecDepth 100000 in
set_option maxHeartbeats 1000000 in
theorem wire_get (A : Option Addr) (xs : List Int) (c : Nat) (w : World) (hr : RdB w A xs) (hx : Byt xs) (hl : xs.length ≤ 140737488355328) :
    Calls Try.prog 57 #[.slice A xs.length c] w fun r w' => r = .returned (.tuple #[.int .u64 (getR xs 0 0).1, .int .i64 (getR xs 0 0).2.1, .int .i64 (getR xs 0 0).2.2]) ∧ w = w' := by
  go_enter Try.func57, Try.ntmps57
  go_wp2_with fail
  go_loop [5, 10] (fun n i => ∃ (k q : Nat), k ≤ xs.length ∧ i = .int .i64 k ∧ n = .int .u64 q ∧ Hid (k ≤ 9 ∧ q < 2 ^ (7 * k) ∧ getR (xs.drop k) k q = getR xs 0 0)) (fun _ i => xs.length - (intOf i).toNat)
  case atStart => exact ⟨0, 0, by omega, rfl, rfl, ⟨by omega, by simp, rfl⟩⟩
  case round =>
    obtain ⟨k, q, hk, rfl, rfl, hrel⟩ := hrel
    rcases Nat.lt_or_ge k xs.length with hlt | hge
    · obtain ⟨bb, off, rfl, hc⟩ := RdB.at_ hr hlt
      obtain ⟨h0, h1⟩ := hx _ (rd_mem hlt)
      obtain ⟨hk9, hq, he⟩ := hrel.out
      rw [drop_rd hlt] at he
      have HE := Lib.hid he
      have HQ := Lib.hid hq
      clear he hq hrel hx hr
      generalize rd xs ↑k = b at *
      rcases Nat.lt_or_ge k 9 with hk8 | hk8
      rotate_left
      · obtain rfl : k = 9 := by omega
        rcases Int.lt_or_le 1 b with hb | hb
        · go_wp2_with fail
          go_ret3
          have he := HE.out
          simp only [getR] at he
          rw [if_pos ⟨by omega, hb⟩] at he
          rw [← he]
          exact ⟨rfl, rfl⟩
        · have hv := getval h0 h1 HQ.out (.inr ⟨by omega, hb⟩)
          have HV := Lib.hid hv
          clear hv
          by_cases hb0 : b = 0
          · subst hb0
            go_wp2_with fail
            go_ret3
            have he := HE.out
            simp only [getR] at he
            rw [if_neg (by omega), if_neg (by omega), if_pos (by first | omega | exact ⟨trivial, by omega⟩)] at he
            rw [← he]
            exact ⟨rfl, rfl⟩
          · go_wp2_with fail
            go_ret3
            have he := HE.out
            simp only [getR] at he
            rw [if_neg (by omega), if_neg (by omega), if_neg (by omega)] at he
            rw [← he]
            refine ⟨?_, rfl⟩
            show Ending.returned (.tuple #[.int .u64 _, .int .i64 _, .int .i64 _]) = _
            rw [← HV.out]
            rfl
      · have hk7 : k ≤ 8 := by omega
        have hv := getval h0 h1 HQ.out (.inl hk7)
        have HV := Lib.hid hv
        clear hv
        rcases Int.lt_or_le b 128 with hb | hb
        · by_cases hb0 : b = 0
          · subst hb0
            rcases Nat.lt_or_ge 0 k with hk0 | hk0
            rotate_left
            · go_wp2_with fail
              go_ret3
              have he := HE.out
              simp only [getR] at he
              rw [if_neg (by omega), if_neg (by omega), if_neg (by omega)] at he
              rw [← he]
              refine ⟨?_, rfl⟩
              show Ending.returned (.tuple #[.int .u64 _, .int .i64 _, .int .i64 _]) = _
              rw [← HV.out]
              rfl
            · go_wp2_with fail
              go_ret3
              have he := HE.out
              simp only [getR] at he
              rw [if_neg (by omega), if_neg (by omega), if_pos (by first | omega | exact ⟨trivial, by omega⟩)] at he
              rw [← he]
              exact ⟨rfl, rfl⟩
          · go_wp2_with fail
            go_ret3
            have he := HE.out
            simp only [getR] at he
            rw [if_neg (by omega), if_neg (by omega), if_neg (by omega)] at he
            rw [← he]
            refine ⟨?_, rfl⟩
            show Ending.returned (.tuple #[.int .u64 _, .int .i64 _, .int .i64 _]) = _
            rw [← HV.out]
            rfl
        · go_wp2_with fail
          refine ⟨⟨k + 1, q + b.toNat % 128 * 2 ^ (7 * k), by omega, by go_num, congrArg _ HV.out, ?_⟩, by simp [intOf]; omega⟩
          refine ⟨by omega, step_lt HQ.out (by omega), ?_⟩
          have he := HE.out
          simp only [getR] at he
          rw [if_neg (by omega), if_pos hb] at he
          exact he
    · obtain rfl : k = xs.length := by omega
      go_wp2_with fail
      go_ret3
      obtain ⟨_, _, he⟩ := hrel.out
      rw [List.drop_length] at he
      rw [← he]
      exact ⟨rfl, rfl⟩

theorem orlow {q : Nat} {b : Int} (h0 : 0 ≤ b) (h1 : b ≤ 255) (hq : q < 72057594037927936) :
    bits BinOp.or .u64 (IntKind.u64.wrap ((q : Int) * 256)) b = ((q * 256 + b.toNat : Nat) : Int) := by
  have e : (q : Int) * 256 = ((q * 256 : Nat) : Int) := by simp
  rw [e, wrap_u64 (by omega)]
  have h := bits_or_u64_nat (q * 256) b.toNat (by omega) (by omega)
  rw [show ((b.toNat : Nat) : Int) = b from by omega] at h
  rw [h]
  have h2 := Nat.two_pow_add_eq_or_of_lt (i := 8) (b := b.toNat) (by omega) q
  rw [show 2 ^ 8 * q = q * 256 from by omega] at h2
  rw [h2]

set_option maxRecDepth 100000 in
set_option maxHeartbeats 1000000 in
theorem wire_getEight_no (A : Option Addr) (xs : List Int) (c : Nat) (w : World) (hl : xs.length < 8) :
    Calls Try.prog 56 #[.slice A xs.length c] w fun r w' => r = .returned (.tuple #[.int .u64 0, .int .i64 4]) ∧ w = w' := by
  go_enter Try.func56, Try.ntmps56
  go_wp2_with fail
  go_ret2
  exact ⟨rfl, rfl⟩
set_option maxRecDepth 100000 in
set_option maxHeartbeats 1000000 in
theorem wire_getEight (A : Option Addr) (xs : List Int) (c : Nat) (w : World) (hr : RdB w A xs) (hx : Byt xs) (hl : xs.length ≤ 140737488355328) (hc : xs.length ≤ c) (h8 : 8 ≤ xs.length) :
    Calls Try.prog 56 #[.slice A xs.length c] w fun r w' => r = .returned (.tuple #[.int .u64 (beVal (xs.take 8)), .int .i64 0]) ∧ w = w' := by
  obtain ⟨ys, hcut, hys⟩ := cut_to8 A c xs 8 h8 hc
  replace hcut : ∀ W : World, (Instr.slice 22 (.slice A xs.length c) none (some (.int .i64 8)) none).run Try.prog W = .ok (.slice A ys.length c) W := hcut
  have hry := hys.out.2.2 w hr
  have hyl : ys.length ≤ 8 := by rw [hys.out.2.1]; omega
  have hyl2 : 8 ≤ ys.length := by rw [hys.out.2.1]; omega
  have hby : Byt ys := by rw [hys.out.1]; exact fun x h => hx x (List.mem_of_mem_take h)
  have he : beVal (xs.take 8) = beVal ys := by rw [hys.out.1]
  rw [he]
  clear he hys hx hr hc
  go_enter Try.func56, Try.ntmps56
  go_wp2_with fail
  go_loop [4, 13] (fun n i => ∃ (k q : Nat), k ≤ ys.length ∧ i = .int .i64 k ∧ n = .int .u64 q ∧ Hid (q = beVal (ys.take k))) (fun _ i => ys.length - (intOf i).toNat)
  case atStart => exact ⟨0, 0, by omega, rfl, rfl, rfl⟩
  case round =>
    obtain ⟨k, q, hk, rfl, rfl, hq⟩ := hrel
    rcases Nat.lt_or_ge k ys.length with hlt | hge
    · obtain ⟨bb, off, rfl, hc⟩ := RdB.at_ hry hlt
      obtain ⟨h0, h1⟩ := hby _ (rd_mem hlt)
      have hql : q < 72057594037927936 := by
        have h2 := beVal_lt (ys.take k) (fun x h => hby x (List.mem_of_mem_take h))
        rw [← hq.out, List.length_take, Nat.min_eq_left hk] at h2
        have : 256 ^ k ≤ 256 ^ 7 := Nat.pow_le_pow_right (by omega) (by omega)
        omega
      have HV := Lib.hid (orlow h0 h1 hql)
      have HN : Hid (beVal (ys.take (k + 1)) = q * 256 + (rd ys k).toNat) := by
        have h2 := take_rd hlt
        show _ = _
        rw [h2, beVal_snoc, ← hq.out]
      clear hq hry hby hcut hql
      generalize rd ys ↑k = b at *
      go_wp2_with fail
      exact ⟨⟨k + 1, q * 256 + b.toNat, by omega, by go_num, congrArg _ HV.out, HN.out.symm⟩, by simp [intOf]; omega⟩
    · obtain rfl : k = ys.length := by omega
      go_wp2_with fail
      go_ret2
      rw [List.take_length] at hq
      rw [← hq.out]
      exact ⟨rfl, rfl⟩

set_option maxRecDepth 100000 in
set_option maxHeartbeats 1000000 in
theorem wire_getText (A : Option Addr) (xs : List Int) (c : Nat) (most : Int) (w : World) (hr : RdB w A xs) (hx : Byt xs) (hl : xs.length ≤ 140737488355328) (hc : xs.length ≤ c) (hm0 : -9223372036854775808 ≤ most) (hm1 : most ≤ 9223372036854775807) :
    Calls Try.prog 69 #[.slice A xs.length c, .int .i64 most] w fun r w' => r = .returned (.tuple #[.string (strOfNums (textR xs most).1), .int .i64 (textR xs most).2.1, .int .i64 (textR xs most).2.2]) ∧ w = w' := by
  have HL := Lib.hid (getR_lt xs 0 0 (by omega) (by simp) hx)
  have HE := Lib.hid (getR_err xs 0 0)
  have HO := fun m k h => Lib.hid (getR_ok xs 0 0 m k h)
  have HG := Lib.hid (wire_get A xs c w hr hx hl)
  have HT : Hid (textR xs most = if (getR xs 0 0).2.2 ≠ 0 then ([], 0, (getR xs 0 0).2.2)
    else if most < 0 ∨ most < (getR xs 0 0).1 then ([], 0, 18)
    else if xs.length - (getR xs 0 0).2.1 < (getR xs 0 0).1 then ([], 0, 4)
    else ((xs.take ((getR xs 0 0).2.1 + (getR xs 0 0).1)).drop (getR xs 0 0).2.1, (getR xs 0 0).2.1 + (getR xs 0 0).1, 0)) := rfl
  generalize textR xs most = T at HT ⊢
  generalize hg : getR xs 0 0 = g at HL HE HO HG HT
  obtain ⟨m, k, e⟩ := g
  clear hg
  simp only at HL HE HG HT
  go_enter Try.func69, Try.ntmps69
  go_wp2_with fail
  refine HG.out.mono ?_
  rintro r w1 ⟨rfl, rfl⟩
  by_cases he : e = 0
  · subst he
    obtain ⟨_, hk⟩ := (HO m k rfl).out
    simp only [Nat.zero_add] at hk
    clear HE HO HG
    rcases Int.lt_or_le most 0 with h1 | h1
    · go_wp2_with fail
      go_ret3
      rw [HT.out, if_neg (by simp), if_pos (.inl h1)]
      exact ⟨rfl, rfl⟩
    · rcases Int.lt_or_le most m with h2 | h2
      · go_wp2_with fail
        go_ret3
        rw [HT.out, if_neg (by simp), if_pos (.inr h2)]
        exact ⟨rfl, rfl⟩
      · rcases Nat.lt_or_ge (xs.length - k) m with h3 | h3
        · go_wp2_with fail
          go_ret3
          rw [HT.out, if_neg (by simp), if_neg (by omega), if_pos h3]
          exact ⟨rfl, rfl⟩
        · obtain ⟨A', ys, hcut, hys⟩ := cut_mid8 A c xs k (k + m) (by omega) (by omega) hc
          simp only [Int.natCast_add] at hcut
          have hcv := conv_str8 (c := c - k) (hys.out.2.2 w hr)
          have HY := Lib.hid hys.out.1
          clear hys hr hx
          go_wp2_with fail
          go_ret3
          rw [HT.out, if_neg (by simp), if_neg (by omega), if_neg (by omega), HY.out]
          exact ⟨rfl, rfl⟩
  · obtain ⟨e1, e2⟩ := HE.out he
    subst e1 e2
    clear HE HO HG
    go_wp2_with fail
    go_ret3
    rw [HT.out, if_pos he]
    exact ⟨rfl, rfl⟩
end Go.Proofs.Ytelfpnpplknlpaa
/- The reference's functions of layer 9 (wire), walked. -/
namespace Go.Proofs.Ytelfpnpplknlpaa
open Go.RowKit
open Go.Proofs.YtelfpnpplknlpaaW.PrintWords

theorem ow_lit0 (w : World) : OwB (w.alloc (.cells #[] 5)) w.heap.size (.slice (some ⟨w.heap.size, 0, none⟩) 0 0) [] :=
  own_lit w w.heap.size 5 .u8 [] (Nat.le_refl _) (by simp)

set_option maxRecDepth 100000 in
set_option maxHeartbeats 400000 in
theorem ref_bytes (m : Nat) (w : World) (hm : m < 18446744073709551616) :
    Calls Try.prog 34 #[.int .u64 m] w fun r w' => ∃ v, r = .returned v ∧ OwB w' w.heap.size v (digs m) ∧ Fr (fun _ => False) w w' := by
  have hdl := digs_len10 hm
  have HM := Lib.hid hm
  clear hm
  go_enter Try.func34, Try.ntmps34
  go_wp2_with fail
  go_loopw [0, 3] (fun n v wr => ∃ (pre : List Int) (q : Nat), n = .int .u64 q ∧ Hid (q ≤ m ∧ pre ++ digs q = digs m ∧ OwB wr w.heap.size v pre ∧ Fr (fun _ => False) w wr)) (fun n _ _ => (intOf n).toNat)
  case atStart => exact ⟨[], m, rfl, ⟨Nat.le_refl _, rfl, ow_lit0 w, (Fr.refl _ _).alloc _⟩⟩
  case round =>
    obtain ⟨pre, q, rfl, hrel⟩ := hrel
    obtain ⟨hq, he, HO, G⟩ := hrel.out
    clear hrel
    have hb1 : pre.length + 1 ≤ 140737488355328 := by
      have := congrArg List.length he
      rw [List.length_append] at this
      omega
    obtain ⟨A1, c1, rfl, _⟩ := HO.reads
    have HE := Lib.hid he
    have HHO := Lib.hid (show ApB wr w.heap.size (.slice A1 pre.length c1) pre from .inr HO)
    have hb2 := G.size
    clear HO hdl he
    rcases Nat.lt_or_ge q 128 with hlt | hge
    · go_wp2_with (at_builtin; go_must (refine append8 w.heap.size rfl _ _ rfl (.slice A1 pre.length c1) pre _ rfl rfl HHO.out hb2 hb1 ?_); intro v1 w1 hown hF)
      go_ret
      have he := HE.out
      rw [digs_small hlt] at he
      rw [he] at hown
      exact ⟨_, rfl, hown, G.trans' hF (fun i hi hk => by have := hk.1; omega)⟩
    · go_wp2_with (at_builtin; go_must (refine append8 w.heap.size rfl _ _ rfl (.slice A1 pre.length c1) pre _ rfl rfl HHO.out hb2 hb1 ?_); intro v1 w1 hown hF)
      refine ⟨⟨pre ++ [((q % 128 + 128 : Nat) : Int)], q / 128, congrArg _ (wrap_u64 (n := q / 128) (by have := HM.out; omega)), by omega, ?_, ?_, G.trans' hF (fun i hi hk => by have := hk.1; omega)⟩, ?_⟩
      · have he := HE.out
        rw [digs_big hge] at he
        rw [← he, List.append_assoc]
        rfl
      · exact hown
      · simp only [intOf]
        rw [show IntKind.u64.wrap ((q : Int) / 128) = ((q / 128 : Nat) : Int) from wrap_u64 (n := q / 128) (by have := HM.out; omega)]
        omega

set_option maxRecDepth 100000 in
set_option maxHeartbeats 400000 in
theorem ref_text (s : ByteArray) (w : World) (hl : s.size ≤ 140737488355300) :
    Calls Try.prog 35 #[.string s] w fun r w' => ∃ v, r = .returned v ∧ OwB w' w.heap.size v (digs s.size ++ bytesOf s) ∧ Fr (fun _ => False) w w' := by
  have hs : (s.size : Int) ≤ 9223372036854775807 := by omega
  have hu := u64_of_nat hs
  go_enter Try.func35, Try.ntmps35
  go_wp2_with fail
  refine (ref_bytes s.size w (by omega)).mono ?_
  rintro r w1 ⟨v, rfl, hown, hF⟩
  have hdl := digs_len10 (m := s.size) (by omega)
  have hl2 : (digs s.size).length + s.size ≤ 140737488355328 := by omega
  obtain ⟨ys, hys⟩ : ∃ ys, Hid (digs s.size = ys) := ⟨_, rfl⟩
  rw [hys.out] at hown hl2
  obtain ⟨A1, c1, rfl, hr1⟩ := hown.reads
  have hb := hF.size
  clear hl hr1 hs hu hdl
  go_wp2_with (at_builtin; go_must (refine append8_str w.heap.size rfl _ _ rfl (.slice A1 ys.length c1) ys s rfl rfl hown hb hl2 ?_); intro v1 w2 hown1 hF1)
  go_ret
  rw [hys.out]
  exact ⟨_, rfl, hown1, hF.trans' hF1 (fun i hi hk => by have := hk.1; omega)⟩

theorem be_val2 (m k : Nat) : (m : Int) / 2 ^ (8 * k) % 256 = ((m / 256 ^ k % 256 : Nat) : Int) := by
  have h := be_val m k
  rwa [show 8 * (k + 1) - 8 = 8 * k from by omega] at h

set_option maxRecDepth 100000 in
set_option maxHeartbeats 400000 in
theorem ref_big (m : Nat) (w : World) (hm : m < 18446744073709551616) :
    Calls Try.prog 7 #[.int .u64 m] w fun r w' => ∃ v, r = .returned v ∧ OwB w' w.heap.size v (be8 m) ∧ Fr (fun _ => False) w w' := by
  have HM := Lib.hid hm
  clear hm
  go_enter Try.func7, Try.ntmps7
  go_wp2_with fail
  go_loopw [3, 4] (fun v i wr => ∃ (k : Nat) (pre : List Int), k ≤ 8 ∧ i = .int .i64 ((k : Int) - 1) ∧ Hid (pre ++ beTo m k = be8 m ∧ OwB wr w.heap.size v pre ∧ Fr (fun _ => False) w wr)) (fun _ i _ => (intOf i + 1).toNat)
  case atStart => exact ⟨8, [], by omega, rfl, ⟨rfl, ow_lit0 w, (Fr.refl _ _).alloc _⟩⟩
  case round =>
    obtain ⟨k, pre, hk, rfl, hrel⟩ := hrel
    obtain ⟨he, HO, G⟩ := hrel.out
    clear hrel
    have hlen : pre.length + (beTo m k).length = 8 := by
      have := congrArg List.length he
      rw [List.length_append] at this
      exact this
    obtain ⟨A1, c1, rfl, _⟩ := HO.reads
    have HE := Lib.hid he
    have HHO := Lib.hid (show ApB wr w.heap.size (.slice A1 pre.length c1) pre from .inr HO)
    have HO1 := Lib.hid HO
    have hb2 := G.size
    clear HO he
    match k, hk, HE, hlen with
    | 0, hk, HE, hlen =>
      clear hlen
      go_wp2_with fail
      go_ret
      have he := HE.out
      simp only [beTo, List.append_nil] at he
      rw [← he]
      exact ⟨_, rfl, HO1.out, G⟩
    | k + 1, hk, HE, hlen =>
      have hb1 : pre.length + 1 ≤ 140737488355328 := by omega
      clear hlen
      go_wp2_with (at_builtin; go_must (refine append8 w.heap.size rfl _ _ rfl (.slice A1 pre.length c1) pre _ rfl rfl HHO.out hb2 hb1 ?_); intro v1 w1 hown hF)
      refine ⟨⟨k, pre ++ [((m / 256 ^ k % 256 : Nat) : Int)], by omega, congrArg _ (by omega), ?_, ?_, G.trans' hF (fun i hi hk => by have := hk.1; omega)⟩, ?_⟩
      · have he := HE.out
        rw [← he, List.append_assoc]
        rfl
      · rw [← be_val2 m k]
        exact hown
      · simp only [intOf]
        omega

theorem getval2 {k q : Nat} {b : Int} (h0 : 0 ≤ b) (h1 : b ≤ 255) (hq : q < 2 ^ (7 * k)) (h : k ≤ 8 ∨ (k = 9 ∧ b ≤ 1)) :
    IntKind.u64.wrap ((q : Int) + IntKind.u64.wrap (b % 128 * 2 ^ (7 * k))) = ((q + b.toNat % 128 * 2 ^ (7 * k) : Nat) : Int) := by
  have hb : b.toNat % 128 < 128 := by omega
  have hlt := part_lt hq hb (by omega)
  have e0 : b % 128 = ((b.toNat % 128 : Nat) : Int) := by omega
  have e : ((b.toNat % 128 : Nat) : Int) * 2 ^ (7 * k) = ((b.toNat % 128 * 2 ^ (7 * k) : Nat) : Int) := by simp
  rw [e0, e, wrap_u64 (by omega), ← Int.natCast_add, wrap_u64 hlt]
set_option maxRecDepth 100000 in
set_option maxHeartbeats 1000000 in
theorem ref_read (A : Option Addr) (xs : List Int) (c : Nat) (w : World) (hr : RdB w A xs) (hx : Byt xs) (hl : xs.length ≤ 140737488355328) :
    Calls Try.prog 43 #[.slice A xs.length c] w fun r w' => r = .returned (.tuple #[.int .u64 (getR xs 0 0).1, .int .i64 (getR xs 0 0).2.1, .int .i64 (getR xs 0 0).2.2]) ∧ w = w' := by
  go_enter Try.func43, Try.ntmps43
  go_wp2_with fail
  go_loop [5, 6, 7] (fun n j i => ∃ (k q : Nat), k ≤ xs.length ∧ i = .int .i64 k ∧ j = .int .i64 k ∧ n = .int .u64 q ∧ Hid (k ≤ 9 ∧ q < 2 ^ (7 * k) ∧ getR (xs.drop k) k q = getR xs 0 0)) (fun _ _ i => xs.length - (intOf i).toNat)
  case atStart => exact ⟨0, 0, by omega, rfl, rfl, rfl, ⟨by omega, by simp, rfl⟩⟩
  case round =>
    obtain ⟨k, q, hk, rfl, rfl, rfl, hrel⟩ := hrel
    rcases Nat.lt_or_ge k xs.length with hlt | hge
    · obtain ⟨bb, off, rfl, hc⟩ := RdB.at_ hr hlt
      obtain ⟨h0, h1⟩ := hx _ (rd_mem hlt)
      obtain ⟨hk9, hq, he⟩ := hrel.out
      rw [drop_rd hlt] at he
      have HE := Lib.hid he
      have HQ := Lib.hid hq
      clear he hq hrel hx hr
      generalize rd xs ↑k = b at *
      rcases Nat.lt_or_ge k 9 with hk8 | hk8
      · have HV := Lib.hid (getval2 h0 h1 HQ.out (.inl (by omega)))
        rcases Int.lt_or_le b 128 with hb | hb
        · rcases Int.lt_or_le 0 b with hb0 | hb0
          · go_wp2_with fail
            go_ret3
            have he := HE.out
            simp only [getR] at he
            rw [if_neg (by omega), if_neg (by omega), if_neg (by omega)] at he
            rw [← he]
            refine ⟨?_, rfl⟩
            show Ending.returned (.tuple #[.int .u64 _, .int .i64 _, .int .i64 _]) = _
            rw [← HV.out]
            rfl
          · rcases Nat.lt_or_ge 0 k with hk0 | hk0
            · go_wp2_with fail
              go_ret3
              have he := HE.out
              simp only [getR] at he
              rw [if_neg (by omega), if_neg (by omega), if_pos (by first | omega | exact ⟨trivial, by omega⟩)] at he
              rw [← he]
              exact ⟨rfl, rfl⟩
            · obtain rfl : b = 0 := by omega
              have HV0 : Hid (IntKind.u64.wrap ((q : Int) + IntKind.u64.wrap 0) = ((q + (0 : Int).toNat % 128 * 2 ^ (7 * k) : Nat) : Int)) := by
                have := HV.out
                rwa [show (0 : Int) % 128 * 2 ^ (7 * k) = 0 from by simp] at this
              go_wp2_with fail
              go_ret3
              have he := HE.out
              simp only [getR] at he
              rw [if_neg (by omega), if_neg (by omega), if_neg (by omega)] at he
              rw [← he]
              refine ⟨?_, rfl⟩
              show Ending.returned (.tuple #[.int .u64 _, .int .i64 _, .int .i64 _]) = _
              rw [← HV0.out]
              rfl
        · go_wp2_with fail
          refine ⟨⟨k + 1, q + b.toNat % 128 * 2 ^ (7 * k), by omega, by go_num, by go_num, congrArg _ HV.out, ?_⟩, by simp [intOf]; omega⟩
          refine ⟨by omega, step_lt HQ.out (by omega), ?_⟩
          have he := HE.out
          simp only [getR] at he
          rw [if_neg (by omega), if_pos hb] at he
          exact he
      · obtain rfl : k = 9 := by omega
        rcases Int.lt_or_le 1 b with hb | hb
        · go_wp2_with fail
          go_ret3
          have he := HE.out
          simp only [getR] at he
          rw [if_pos ⟨by omega, hb⟩] at he
          rw [← he]
          exact ⟨rfl, rfl⟩
        · have HV : Hid (IntKind.u64.wrap ((q : Int) + b % 128 * 9223372036854775808) = ((q + b.toNat % 128 * 2 ^ (7 * 9) : Nat) : Int)) := by
            have hlt := part_lt HQ.out (b := b.toNat % 128) (by omega) (.inr ⟨rfl, by omega⟩)
            have e : (q : Int) + b % 128 * 9223372036854775808 = ((q + b.toNat % 128 * 2 ^ (7 * 9) : Nat) : Int) := by omega
            show _ = _
            rw [e, wrap_u64 hlt]
          rcases Int.lt_or_le 0 b with hb0 | hb0
          · go_wp2_with fail
            go_ret3
            have he := HE.out
            simp only [getR] at he
            rw [if_neg (by omega), if_neg (by omega), if_neg (by omega)] at he
            rw [← he]
            refine ⟨?_, rfl⟩
            show Ending.returned (.tuple #[.int .u64 _, .int .i64 _, .int .i64 _]) = _
            rw [← HV.out]
            rfl
          · go_wp2_with fail
            go_ret3
            have he := HE.out
            simp only [getR] at he
            rw [if_neg (by omega), if_neg (by omega), if_pos (by first | omega | exact ⟨trivial, by omega⟩)] at he
            rw [← he]
            exact ⟨rfl, rfl⟩
    · obtain rfl : k = xs.length := by omega
      go_wp2_with fail
      go_ret3
      obtain ⟨_, _, he⟩ := hrel.out
      rw [List.drop_length] at he
      rw [← he]
      exact ⟨rfl, rfl⟩
end Go.Proofs.Ytelfpnpplknlpaa
/- What is put is got: plain lists. -/
namespace Go.Proofs.Ytelfpnpplknlpaa
open Go.Proofs.YtelfpnpplknlpaaW.PrintWords

theorem getR_digs (r : List Int) : ∀ (k m i n : Nat), m < 128 ^ (k + 1) → i ≤ 9 → m * 2 ^ (7 * i) < 18446744073709551616 → (i = 0 ∨ 0 < m) →
    getR (digs m ++ r) i n = (n + m * 2 ^ (7 * i), i + (digs m).length, 0) := by
  intro k
  induction k with
  | zero =>
    intro m i n hk hi hm h0
    have hs : m < 128 := by simpa using hk
    rw [digs_small hs]
    simp only [List.cons_append, List.nil_append, getR, List.length_singleton]
    rw [if_neg, if_neg (by omega), if_neg (by omega)]
    · simp only [Int.toNat_natCast, Nat.mod_eq_of_lt hs]
    · rintro ⟨rfl, h1⟩
      omega
  | succ k ih =>
    intro m i n hk hi hm h0
    rcases Nat.lt_or_ge m 128 with hs | hs
    · rw [digs_small hs]
      simp only [List.cons_append, List.nil_append, getR, List.length_singleton]
      rw [if_neg, if_neg (by omega), if_neg (by omega)]
      · simp only [Int.toNat_natCast, Nat.mod_eq_of_lt hs]
      · rintro ⟨rfl, h1⟩
        omega
    · have hi8 : i ≤ 8 := by
        rcases Nat.lt_or_ge i 9 with h | h
        · omega
        · obtain rfl : i = 9 := by omega
          omega
      rw [digs_big hs]
      simp only [List.cons_append, getR, List.length_cons]
      rw [if_neg (by omega), if_pos (by omega)]
      have e1 : 2 ^ (7 * (i + 1)) = 128 * 2 ^ (7 * i) := by rw [Nat.mul_add, Nat.pow_add, Nat.mul_comm]
      have e2 : m / 128 * 2 ^ (7 * (i + 1)) = (m / 128 * 128) * 2 ^ (7 * i) := by rw [e1, Nat.mul_assoc]
      have e3 : m * 2 ^ (7 * i) = (m / 128 * 128) * 2 ^ (7 * i) + (m % 128) * 2 ^ (7 * i) := by rw [← Nat.add_mul]; congr 1; omega
      rw [ih (m / 128) (i + 1) _ (by rw [Nat.div_lt_iff_lt_mul (by omega)]; rw [Nat.pow_succ] at hk; exact hk) (by omega) (by omega) (.inr (by omega))]
      rw [e2, e3]
      have e4 : (((m % 128 + 128 : Nat) : Int)).toNat % 128 = m % 128 := by omega
      rw [e4]
      simp only [Prod.mk.injEq, and_true]
      omega
theorem get_digs {m : Nat} (r : List Int) (h : m < 18446744073709551616) : getR (digs m ++ r) 0 0 = (m, (digs m).length, 0) := by
  have := getR_digs r 9 m 0 0 (by omega) (by omega) (by simpa using h) (.inl rfl)
  simpa using this
theorem bytes_str (s : ByteArray) : strOfNums (bytesOf s) = s := by
  obtain ⟨⟨l⟩⟩ := s
  simp only [strOfNums, bytesOf, List.map_map]
  congr 2
  have : ∀ l : List UInt8, l.map ((fun n : Int => UInt8.ofNat n.toNat) ∘ fun b : UInt8 => (b.toNat : Int)) = l := by
    intro l
    induction l with
    | nil => rfl
    | cons x r ih => simp only [List.map_cons, ih, Function.comp]; simp
  exact this l
theorem bytes_byt (s : ByteArray) : Byt (bytesOf s) := by
  intro x hx
  simp only [bytesOf, List.mem_map] at hx
  obtain ⟨b, _, rfl⟩ := hx
  have := b.toNat_lt
  omega
theorem digs_byt (k : Nat) : ∀ m, m < 128 ^ (k + 1) → Byt (digs m) := by
  induction k with
  | zero => intro m h x hx; rw [digs_small (by simpa using h)] at hx; simp at hx; simp at h; omega
  | succ k ih =>
    intro m h
    rcases Nat.lt_or_ge m 128 with hs | hs
    · intro x hx; rw [digs_small hs] at hx; simp at hx; omega
    · intro x hx
      rw [digs_big hs, List.mem_cons] at hx
      rcases hx with rfl | hx
      · omega
      · exact ih (m / 128) (by rw [Nat.div_lt_iff_lt_mul (by omega)]; rw [Nat.pow_succ] at h; exact h) x hx
theorem digs_byt10 {m : Nat} (h : m < 18446744073709551616) : Byt (digs m) := digs_byt 9 m (by omega)
theorem Byt.append {a b : List Int} (ha : Byt a) (hb : Byt b) : Byt (a ++ b) := fun x hx => by
  rcases List.mem_append.1 hx with h | h
  · exact ha x h
  · exact hb x h
theorem text_digs (s : ByteArray) (r : List Int) (most : Int) (h : (s.size : Int) ≤ most) (hm : s.size < 18446744073709551616) :
    textR (digs s.size ++ bytesOf s ++ r) most = (bytesOf s, (digs s.size).length + s.size, 0) := by
  have hg : getR (digs s.size ++ bytesOf s ++ r) 0 0 = (s.size, (digs s.size).length, 0) := by
    rw [List.append_assoc]
    exact get_digs _ hm
  have hb := bytesOf_length s
  unfold textR
  rw [hg]
  simp only
  rw [if_neg (by simp), if_neg (by omega), if_neg (by simp only [List.length_append]; omega)]
  congr 1
  rw [List.take_append_of_le_length (by simp only [List.length_append]; omega), List.take_of_length_le (by simp only [List.length_append]; omega), List.drop_left]
theorem beTo_len (m : Nat) : ∀ k, (beTo m k).length = k
  | 0 => rfl
  | k + 1 => by rw [beTo, List.length_cons, beTo_len m k]
theorem beTo_byt (m : Nat) : ∀ k, Byt (beTo m k)
  | 0 => fun x hx => by cases hx
  | k + 1 => fun x hx => by
    rw [beTo, List.mem_cons] at hx
    rcases hx with rfl | hx
    · omega
    · exact beTo_byt m k x hx
theorem beVal_cons (c : Int) (l : List Int) : beVal (c :: l) = c.toNat * 256 ^ l.length + beVal l := by
  have key : ∀ (l : List Int) (n : Nat), l.foldl (fun n c => n * 256 + c.toNat) n = n * 256 ^ l.length + l.foldl (fun n c => n * 256 + c.toNat) 0 := by
    intro l
    induction l with
    | nil => intro n; simp
    | cons d l ih =>
      intro n
      rw [List.foldl_cons, List.foldl_cons, ih, ih (0 * 256 + d.toNat), List.length_cons, Nat.pow_succ]
      rw [Nat.add_mul, Nat.zero_mul, Nat.zero_add, Nat.mul_assoc, Nat.mul_comm 256]
      omega
  unfold beVal
  rw [List.foldl_cons, key, Nat.zero_mul, Nat.zero_add]
theorem beVal_beTo (m : Nat) : ∀ k, beVal (beTo m k) = m % 256 ^ k
  | 0 => by simp [beTo, beVal, Nat.mod_one]
  | k + 1 => by
    rw [beTo, beVal_cons, beVal_beTo m k, beTo_len, Int.toNat_natCast, Nat.pow_succ, Nat.mod_mul, Nat.add_comm, Nat.mul_comm]
theorem beVal_be8 {m : Nat} (h : m < 18446744073709551616) : beVal (be8 m) = m := by
  unfold be8
  rw [beVal_beTo]
  exact Nat.mod_eq_of_lt (by omega)
end Go.Proofs.Ytelfpnpplknlpaa
/- Doubles, plain: how two words stand is how their ranks stand. No program in sight. -/
namespace Go.Proofs.Ytelfpnpplknlpaa
open Ieee

def rung (x : Nat) : Nat := x % 9223372036854775808
def negW (x : Nat) : Bool := x / 9223372036854775808 % 2 == 1
def nanW (x : Nat) : Prop := 9218868437227405312 < rung x
instance (x : Nat) : Decidable (nanW x) := inferInstanceAs (Decidable (_ < _))
def rank (x : Nat) : Int := if negW x then -(rung x : Int) else rung x

/-- The magnitude of a finite rung, in units of the least one. -/
def scale (r : Nat) : Nat := if r < 4503599627370496 then r else (4503599627370496 + r % 4503599627370496) * 2 ^ (r / 4503599627370496 - 1)

theorem scale_step (r : Nat) : scale r < scale (r + 1) := by
  unfold scale
  rcases Nat.lt_or_ge (r + 1) 4503599627370496 with h | h
  · rw [if_pos (by omega), if_pos h]; omega
  · rcases Nat.lt_or_ge r 4503599627370496 with h1 | h1
    · have : r = 4503599627370495 := by omega
      subst this
      decide
    · rw [if_neg (by omega), if_neg (by omega)]
      rcases Nat.lt_or_ge (r % 4503599627370496 + 1) 4503599627370496 with h2 | h2
      · have e1 : (r + 1) / 4503599627370496 = r / 4503599627370496 := by omega
        have e2 : (r + 1) % 4503599627370496 = r % 4503599627370496 + 1 := by omega
        rw [e1, e2]
        exact Nat.mul_lt_mul_of_pos_right (by omega) (Nat.two_pow_pos _)
      · have e1 : (r + 1) / 4503599627370496 = r / 4503599627370496 + 1 := by omega
        have e2 : (r + 1) % 4503599627370496 = 0 := by omega
        have e3 : r / 4503599627370496 + 1 - 1 = (r / 4503599627370496 - 1) + 1 := by omega
        rw [e1, e2, e3, Nat.pow_succ, Nat.add_zero, Nat.mul_comm (2 ^ _) 2, ← Nat.mul_assoc]
        exact Nat.mul_lt_mul_of_pos_right (by omega) (Nat.two_pow_pos _)
theorem scale_mono {a b : Nat} (h : a < b) : scale a < scale b := by
  induction b with
  | zero => omega
  | succ b ih =>
    rcases Nat.lt_or_ge a b with h1 | h1
    · exact Nat.lt_trans (ih h1) (scale_step b)
    · have : a = b := by omega
      subst this; exact scale_step a
theorem scale_zero : scale 0 = 0 := rfl

def sval (n : Bool) (r : Nat) : Int := if n then -(scale r : Int) else scale r
theorem sval_cmp (x y : Nat) : compare (sval (negW x) (rung x)) (sval (negW y) (rung y)) = compare (rank x) (rank y) := by
  have key : ∀ a b : Nat, (scale a < scale b ↔ a < b) := fun a b => ⟨fun h => by
    rcases Nat.lt_or_ge a b with h1 | h1
    · exact h1
    · rcases Nat.eq_or_lt_of_le h1 with h2 | h2
      · subst h2; omega
      · have := scale_mono h2; omega, scale_mono⟩
  have k1 := key (rung x) (rung y)
  have k2 := key (rung y) (rung x)
  have k3 := key 0 (rung x)
  have k4 := key 0 (rung y)
  rw [scale_zero] at k3 k4
  have hlt : sval (negW x) (rung x) < sval (negW y) (rung y) ↔ rank x < rank y := by
    unfold sval rank
    cases negW x <;> cases negW y <;> simp only [if_true, if_false, Bool.false_eq_true] <;> omega
  have heq : sval (negW x) (rung x) = sval (negW y) (rung y) ↔ rank x = rank y := by
    unfold sval rank
    cases negW x <;> cases negW y <;> simp only [if_true, if_false, Bool.false_eq_true] <;> omega
  show compareOfLessAndEq _ _ = compareOfLessAndEq _ _
  unfold compareOfLessAndEq
  by_cases h1 : rank x < rank y
  · rw [if_pos h1, if_pos (hlt.2 h1)]
  · rw [if_neg h1, if_neg (fun h => h1 (hlt.1 h))]
    by_cases h2 : rank x = rank y
    · rw [if_pos h2, if_pos (heq.2 h2)]
    · rw [if_neg h2, if_neg (fun h => h2 (heq.1 h))]

theorem cmp_scale (a b : Int) (p : Nat) (hp : 0 < p) : compare (a * p) (b * p) = compare a b := by
  have hlt : a * p < b * p ↔ a < b := Int.mul_lt_mul_right (by omega)
  have heq : a * p = b * p ↔ a = b := Int.mul_eq_mul_right_iff (by omega)
  show compareOfLessAndEq _ _ = compareOfLessAndEq _ _
  unfold compareOfLessAndEq
  by_cases h1 : a < b
  · rw [if_pos h1, if_pos (hlt.2 h1)]
  · rw [if_neg h1, if_neg (fun h => h1 (hlt.1 h))]
    by_cases h2 : a = b
    · rw [if_pos h2, if_pos (heq.2 h2)]
    · rw [if_neg h2, if_neg (fun h => h2 (heq.1 h))]

theorem signed_mul (s : Bool) (m u p : Nat) : signed s m u * (2 ^ p : Nat) = signed s m (u + p) := by
  unfold signed
  rw [Nat.shiftLeft_eq, Nat.shiftLeft_eq, Nat.pow_add]
  cases s
  · simp only [if_false, Bool.false_eq_true]; push_cast; rw [Int.mul_assoc]
  · simp only [if_true]; push_cast; rw [Int.neg_mul, Int.mul_assoc]

/-- What a finite word reads as: its sign, and a magnitude at a place such that in units of the least one it is its scale. -/
theorem read_num (x : Nat) (h : rung x < 9218868437227405312) : ∃ m a : Nat, double.read x = .number (negW x) m (-1074 + (a : Int)) ∧ m * 2 ^ a = scale (rung x) := by
  unfold scale
  have e1 : double.signWeight = 9223372036854775808 := by decide +kernel
  have e2 : double.binade = 4503599627370496 := by decide +kernel
  have e3 : double.infRung = 9218868437227405312 := by decide +kernel
  have e4 : double.leastPlace = -1074 := by decide +kernel
  unfold Format.read
  rw [e1, e2, e3, e4]
  simp only
  change x % 9223372036854775808 < _ at h
  rcases Nat.lt_or_ge (x % 9223372036854775808) 4503599627370496 with h1 | h1
  · refine ⟨x % 9223372036854775808, 0, ?_, ?_⟩
    · rw [if_pos h1]; rfl
    · unfold rung; rw [if_pos h1]; omega
  · refine ⟨4503599627370496 + x % 9223372036854775808 % 4503599627370496, x % 9223372036854775808 / 4503599627370496 - 1, ?_, ?_⟩
    · rw [if_neg (by omega), if_pos h]; rfl
    · unfold rung; rw [if_neg (by omega)]
theorem read_inf (x : Nat) (h : rung x = 9218868437227405312) : double.read x = .infinity (negW x) := by
  have e1 : double.signWeight = 9223372036854775808 := by decide +kernel
  have e2 : double.binade = 4503599627370496 := by decide +kernel
  have e3 : double.infRung = 9218868437227405312 := by decide +kernel
  unfold Format.read
  rw [e1, e2, e3]
  simp only
  change x % 9223372036854775808 = _ at h
  rw [if_neg (by omega), if_neg (by omega), if_pos h]; rfl
theorem read_nan (x : Nat) (h : nanW x) : ∃ t, double.read x = .nan (negW x) t := by
  have e1 : double.signWeight = 9223372036854775808 := by decide +kernel
  have e2 : double.binade = 4503599627370496 := by decide +kernel
  have e3 : double.infRung = 9218868437227405312 := by decide +kernel
  unfold Format.read
  rw [e1, e2, e3]
  simp only
  change _ < x % 9223372036854775808 at h
  refine ⟨x % 9223372036854775808 - 9218868437227405312, ?_⟩
  rw [if_neg (by omega), if_neg (by omega), if_neg (by omega)]; rfl

theorem order_nan (x y : Nat) (h : nanW x ∨ nanW y) : double.order x y = none := by
  unfold Format.order
  rcases h with h | h
  · obtain ⟨t, e⟩ := read_nan x h
    rw [e]; rfl
  · obtain ⟨t, e⟩ := read_nan y h
    rw [e]
    cases double.read x <;> rfl
theorem order_rank (x y : Nat) (hx : ¬ nanW x) (hy : ¬ nanW y) : double.order x y = some (compare (rank x) (rank y)) := by
  unfold Format.order
  unfold nanW at hx hy
  have cmp : ∀ a b : Int, (a < b → compare a b = .lt) ∧ (b < a → compare a b = .gt) ∧ (a = b → compare a b = .eq) := fun a b => by
    refine ⟨fun h => ?_, fun h => ?_, fun h => ?_⟩ <;> show compareOfLessAndEq a b = _ <;> unfold compareOfLessAndEq
    · rw [if_pos h]
    · rw [if_neg (by omega), if_neg (by omega)]
    · rw [if_neg (by omega), if_pos h]
  rcases Nat.lt_or_ge (rung x) 9218868437227405312 with h1 | h1
  · obtain ⟨m, a, e, hm⟩ := read_num x h1
    rw [e]
    rcases Nat.lt_or_ge (rung y) 9218868437227405312 with h2 | h2
    · obtain ⟨n, b, f, hn⟩ := read_num y h2
      rw [f]
      unfold Datum.order
      simp only
      congr 1
      rw [← sval_cmp]
      have hb : ∀ a b : Nat, ((-1074 + (a : Int)) - min (-1074 + (a : Int)) (-1074 + (b : Int))).toNat + min a b = a := fun a b => by omega
      have hb2 : ∀ a b : Nat, ((-1074 + (b : Int)) - min (-1074 + (a : Int)) (-1074 + (b : Int))).toNat + min a b = b := fun a b => by omega
      rw [← cmp_scale _ _ (2 ^ min a b) (Nat.two_pow_pos _), signed_mul, signed_mul, hb, hb2]
      have hs : ∀ (s : Bool) (m a r : Nat), m * 2 ^ a = scale r → signed s m a = sval s r := fun s m a r h => by
        unfold signed sval
        rw [Nat.shiftLeft_eq, h]
      rw [hs _ _ _ _ hm, hs _ _ _ _ hn]
    · rw [read_inf y (by omega)]
      have hy2 : rung y = 9218868437227405312 := by omega
      unfold Datum.order
      simp only
      congr 1
      have hr : rank y = if negW y then -9218868437227405312 else 9218868437227405312 := by unfold rank; rw [hy2]; rfl
      have hq : -9218868437227405312 < rank x ∧ rank x < 9218868437227405312 := by unfold rank; cases negW x <;> simp only [if_true, if_false, Bool.false_eq_true] <;> omega
      rw [hr]
      cases negW y
      · exact ((cmp _ _).1 hq.2).symm
      · exact ((cmp _ _).2.1 hq.1).symm
  · have hx2 : rung x = 9218868437227405312 := by omega
    rw [read_inf x hx2]
    have hr : rank x = if negW x then -9218868437227405312 else 9218868437227405312 := by unfold rank; rw [hx2]; rfl
    rcases Nat.lt_or_ge (rung y) 9218868437227405312 with h2 | h2
    · obtain ⟨n, b, f, hn⟩ := read_num y h2
      rw [f]
      unfold Datum.order
      simp only
      congr 1
      have hq : -9218868437227405312 < rank y ∧ rank y < 9218868437227405312 := by unfold rank; cases negW y <;> simp only [if_true, if_false, Bool.false_eq_true] <;> omega
      rw [hr]
      cases negW x
      · exact ((cmp _ _).2.1 hq.2).symm
      · exact ((cmp _ _).1 hq.1).symm
    · have hy2 : rung y = 9218868437227405312 := by omega
      have hr2 : rank y = if negW y then -9218868437227405312 else 9218868437227405312 := by unfold rank; rw [hy2]; rfl
      rw [read_inf y hy2, hr, hr2]
      cases negW x <;> cases negW y <;> rfl
end Go.Proofs.Ytelfpnpplknlpaa
