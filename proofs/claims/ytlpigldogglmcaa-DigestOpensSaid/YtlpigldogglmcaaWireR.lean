/- The reference's functions of layer 9 (wire), walked. -/
import Derived.Test.YtlpigldogglmcaaWireG
set_option linter.unusedVariables false
set_option linter.unusedSimpArgs false
namespace Go.Proofs.Ytlpigldogglmcaa
open Go.RowKit
open Go.Proofs.YtlpigldogglmcaaW.PrintWords

theorem ow_lit0 (w : World) : OwB (w.alloc (.cells #[] 5)) w.heap.size (.slice (some ⟨w.heap.size, 0, none⟩) 0 0) [] :=
  own_lit w w.heap.size 5 .u8 [] (Nat.le_refl _) (by simp)

set_option maxRecDepth 100000 in
set_option maxHeartbeats 400000 in
theorem ref_bytes (m : Nat) (w : World) (hm : m < 18446744073709551616) :
    Calls Try.prog 49 #[.int .u64 m] w fun r w' => ∃ v, r = .returned v ∧ OwB w' w.heap.size v (digs m) ∧ Fr (fun _ => False) w w' := by
  have hdl := digs_len10 hm
  have HM := Lib.hid hm
  clear hm
  go_enter Try.func49, Try.ntmps49
  go_wp2_with fail
  go_loopw [0, 3] (fun n v wr => ∃ (pre : List Int) (q : Nat), n = .int .u64 q ∧ Hid (q ≤ m ∧ pre ++ digs q = digs m ∧ OwB wr w.heap.size v pre ∧ Fr (fun _ => False) w wr)) (fun n _ _ => (intOf n).toNat)
  case atStart => exact ⟨[], m, rfl, ⟨Nat.le_refl _, rfl, ow_lit0 w, (Fr.refl _ _).alloc _⟩⟩
  case round =>
    obtain ⟨pre, q, rfl, hrel⟩ := hrel
    obtain ⟨hq, he, HO, G⟩ := hrel.out
    clear hrel
    have hb1 : pre.length + 1 ≤ 140737488355328 := by
      have := congrArg List.length he
      rw [List.length_append] at this
      omega
    obtain ⟨A1, c1, rfl, _⟩ := HO.reads
    have HE := Lib.hid he
    have HHO := Lib.hid (show ApB wr w.heap.size (.slice A1 pre.length c1) pre from .inr HO)
    have hb2 := G.size
    clear HO hdl he
    rcases Nat.lt_or_ge q 128 with hlt | hge
    · go_wp2_with (at_builtin; go_must (refine append8 w.heap.size rfl _ _ rfl (.slice A1 pre.length c1) pre _ rfl rfl HHO.out hb2 hb1 ?_); intro v1 w1 hown hF)
      go_ret
      have he := HE.out
      rw [digs_small hlt] at he
      rw [he] at hown
      exact ⟨_, rfl, hown, G.trans' hF (fun i hi hk => by have := hk.1; omega)⟩
    · go_wp2_with (at_builtin; go_must (refine append8 w.heap.size rfl _ _ rfl (.slice A1 pre.length c1) pre _ rfl rfl HHO.out hb2 hb1 ?_); intro v1 w1 hown hF)
      refine ⟨⟨pre ++ [((q % 128 + 128 : Nat) : Int)], q / 128, congrArg _ (wrap_u64 (n := q / 128) (by have := HM.out; omega)), by omega, ?_, ?_, G.trans' hF (fun i hi hk => by have := hk.1; omega)⟩, ?_⟩
      · have he := HE.out
        rw [digs_big hge] at he
        rw [← he, List.append_assoc]
        rfl
      · exact hown
      · simp only [intOf]
        rw [show IntKind.u64.wrap ((q : Int) / 128) = ((q / 128 : Nat) : Int) from wrap_u64 (n := q / 128) (by have := HM.out; omega)]
        omega

set_option maxRecDepth 100000 in
set_option maxHeartbeats 400000 in
theorem ref_text (s : ByteArray) (w : World) (hl : s.size ≤ 140737488355300) :
    Calls Try.prog 50 #[.string s] w fun r w' => ∃ v, r = .returned v ∧ OwB w' w.heap.size v (digs s.size ++ bytesOf s) ∧ Fr (fun _ => False) w w' := by
  have hs : (s.size : Int) ≤ 9223372036854775807 := by omega
  have hu := u64_of_nat hs
  go_enter Try.func50, Try.ntmps50
  go_wp2_with fail
  refine (ref_bytes s.size w (by omega)).mono ?_
  rintro r w1 ⟨v, rfl, hown, hF⟩
  have hdl := digs_len10 (m := s.size) (by omega)
  have hl2 : (digs s.size).length + s.size ≤ 140737488355328 := by omega
  obtain ⟨ys, hys⟩ : ∃ ys, Hid (digs s.size = ys) := ⟨_, rfl⟩
  rw [hys.out] at hown hl2
  obtain ⟨A1, c1, rfl, hr1⟩ := hown.reads
  have hb := hF.size
  clear hl hr1 hs hu hdl
  go_wp2_with (at_builtin; go_must (refine append8_str w.heap.size rfl _ _ rfl (.slice A1 ys.length c1) ys s rfl rfl hown hb hl2 ?_); intro v1 w2 hown1 hF1)
  go_ret
  rw [hys.out]
  exact ⟨_, rfl, hown1, hF.trans' hF1 (fun i hi hk => by have := hk.1; omega)⟩

theorem be_val2 (m k : Nat) : (m : Int) / 2 ^ (8 * k) % 256 = ((m / 256 ^ k % 256 : Nat) : Int) := by
  have h := be_val m k
  rwa [show 8 * (k + 1) - 8 = 8 * k from by omega] at h

set_option maxRecDepth 100000 in
set_option maxHeartbeats 400000 in
theorem ref_big (m : Nat) (w : World) (hm : m < 18446744073709551616) :
    Calls Try.prog 26 #[.int .u64 m] w fun r w' => ∃ v, r = .returned v ∧ OwB w' w.heap.size v (be8 m) ∧ Fr (fun _ => False) w w' := by
  have HM := Lib.hid hm
  clear hm
  go_enter Try.func26, Try.ntmps26
  go_wp2_with fail
  go_loopw [3, 4] (fun v i wr => ∃ (k : Nat) (pre : List Int), k ≤ 8 ∧ i = .int .i64 ((k : Int) - 1) ∧ Hid (pre ++ beTo m k = be8 m ∧ OwB wr w.heap.size v pre ∧ Fr (fun _ => False) w wr)) (fun _ i _ => (intOf i + 1).toNat)
  case atStart => exact ⟨8, [], by omega, rfl, ⟨rfl, ow_lit0 w, (Fr.refl _ _).alloc _⟩⟩
  case round =>
    obtain ⟨k, pre, hk, rfl, hrel⟩ := hrel
    obtain ⟨he, HO, G⟩ := hrel.out
    clear hrel
    have hlen : pre.length + (beTo m k).length = 8 := by
      have := congrArg List.length he
      rw [List.length_append] at this
      exact this
    obtain ⟨A1, c1, rfl, _⟩ := HO.reads
    have HE := Lib.hid he
    have HHO := Lib.hid (show ApB wr w.heap.size (.slice A1 pre.length c1) pre from .inr HO)
    have HO1 := Lib.hid HO
    have hb2 := G.size
    clear HO he
    match k, hk, HE, hlen with
    | 0, hk, HE, hlen =>
      clear hlen
      go_wp2_with fail
      go_ret
      have he := HE.out
      simp only [beTo, List.append_nil] at he
      rw [← he]
      exact ⟨_, rfl, HO1.out, G⟩
    | k + 1, hk, HE, hlen =>
      have hb1 : pre.length + 1 ≤ 140737488355328 := by omega
      clear hlen
      go_wp2_with (at_builtin; go_must (refine append8 w.heap.size rfl _ _ rfl (.slice A1 pre.length c1) pre _ rfl rfl HHO.out hb2 hb1 ?_); intro v1 w1 hown hF)
      refine ⟨⟨k, pre ++ [((m / 256 ^ k % 256 : Nat) : Int)], by omega, congrArg _ (by omega), ?_, ?_, G.trans' hF (fun i hi hk => by have := hk.1; omega)⟩, ?_⟩
      · have he := HE.out
        rw [← he, List.append_assoc]
        rfl
      · rw [← be_val2 m k]
        exact hown
      · simp only [intOf]
        omega

theorem getval2 {k q : Nat} {b : Int} (h0 : 0 ≤ b) (h1 : b ≤ 255) (hq : q < 2 ^ (7 * k)) (h : k ≤ 8 ∨ (k = 9 ∧ b ≤ 1)) :
    IntKind.u64.wrap ((q : Int) + IntKind.u64.wrap (b % 128 * 2 ^ (7 * k))) = ((q + b.toNat % 128 * 2 ^ (7 * k) : Nat) : Int) := by
  have hb : b.toNat % 128 < 128 := by omega
  have hlt := part_lt hq hb (by omega)
  have e0 : b % 128 = ((b.toNat % 128 : Nat) : Int) := by omega
  have e : ((b.toNat % 128 : Nat) : Int) * 2 ^ (7 * k) = ((b.toNat % 128 * 2 ^ (7 * k) : Nat) : Int) := by simp
  rw [e0, e, wrap_u64 (by omega), ← Int.natCast_add, wrap_u64 hlt]
set_option maxRecDepth 100000 in
set_option maxHeartbeats 1000000 in
theorem ref_read (A : Option Addr) (xs : List Int) (c : Nat) (w : World) (hr : RdB w A xs) (hx : Byt xs) (hl : xs.length ≤ 140737488355328) :
    Calls Try.prog 41 #[.slice A xs.length c] w fun r w' => r = .returned (.tuple #[.int .u64 (getR xs 0 0).1, .int .i64 (getR xs 0 0).2.1, .int .i64 (getR xs 0 0).2.2]) ∧ w = w' := by
  go_enter Try.func41, Try.ntmps41
  go_wp2_with fail
  go_loop [5, 6, 7] (fun n j i => ∃ (k q : Nat), k ≤ xs.length ∧ i = .int .i64 k ∧ j = .int .i64 k ∧ n = .int .u64 q ∧ Hid (k ≤ 9 ∧ q < 2 ^ (7 * k) ∧ getR (xs.drop k) k q = getR xs 0 0)) (fun _ _ i => xs.length - (intOf i).toNat)
  case atStart => exact ⟨0, 0, by omega, rfl, rfl, rfl, ⟨by omega, by simp, rfl⟩⟩
  case round =>
    obtain ⟨k, q, hk, rfl, rfl, rfl, hrel⟩ := hrel
    rcases Nat.lt_or_ge k xs.length with hlt | hge
    · obtain ⟨bb, off, rfl, hc⟩ := RdB.at_ hr hlt
      obtain ⟨h0, h1⟩ := hx _ (rd_mem hlt)
      obtain ⟨hk9, hq, he⟩ := hrel.out
      rw [drop_rd hlt] at he
      have HE := Lib.hid he
      have HQ := Lib.hid hq
      clear he hq hrel hx hr
      generalize rd xs ↑k = b at *
      rcases Nat.lt_or_ge k 9 with hk8 | hk8
      · have HV := Lib.hid (getval2 h0 h1 HQ.out (.inl (by omega)))
        rcases Int.lt_or_le b 128 with hb | hb
        · rcases Int.lt_or_le 0 b with hb0 | hb0
          · go_wp2_with fail
            go_ret3
            have he := HE.out
            simp only [getR] at he
            rw [if_neg (by omega), if_neg (by omega), if_neg (by omega)] at he
            rw [← he]
            refine ⟨?_, rfl⟩
            show Ending.returned (.tuple #[.int .u64 _, .int .i64 _, .int .i64 _]) = _
            rw [← HV.out]
            rfl
          · rcases Nat.lt_or_ge 0 k with hk0 | hk0
            · go_wp2_with fail
              go_ret3
              have he := HE.out
              simp only [getR] at he
              rw [if_neg (by omega), if_neg (by omega), if_pos (by first | omega | exact ⟨trivial, by omega⟩)] at he
              rw [← he]
              exact ⟨rfl, rfl⟩
            · obtain rfl : b = 0 := by omega
              have HV0 : Hid (IntKind.u64.wrap ((q : Int) + IntKind.u64.wrap 0) = ((q + (0 : Int).toNat % 128 * 2 ^ (7 * k) : Nat) : Int)) := by
                have := HV.out
                rwa [show (0 : Int) % 128 * 2 ^ (7 * k) = 0 from by simp] at this
              go_wp2_with fail
              go_ret3
              have he := HE.out
              simp only [getR] at he
              rw [if_neg (by omega), if_neg (by omega), if_neg (by omega)] at he
              rw [← he]
              refine ⟨?_, rfl⟩
              show Ending.returned (.tuple #[.int .u64 _, .int .i64 _, .int .i64 _]) = _
              rw [← HV0.out]
              rfl
        · go_wp2_with fail
          refine ⟨⟨k + 1, q + b.toNat % 128 * 2 ^ (7 * k), by omega, by go_num, by go_num, congrArg _ HV.out, ?_⟩, by simp [intOf]; omega⟩
          refine ⟨by omega, step_lt HQ.out (by omega), ?_⟩
          have he := HE.out
          simp only [getR] at he
          rw [if_neg (by omega), if_pos hb] at he
          exact he
      · obtain rfl : k = 9 := by omega
        rcases Int.lt_or_le 1 b with hb | hb
        · go_wp2_with fail
          go_ret3
          have he := HE.out
          simp only [getR] at he
          rw [if_pos ⟨by omega, hb⟩] at he
          rw [← he]
          exact ⟨rfl, rfl⟩
        · have HV : Hid (IntKind.u64.wrap ((q : Int) + b % 128 * 9223372036854775808) = ((q + b.toNat % 128 * 2 ^ (7 * 9) : Nat) : Int)) := by
            have hlt := part_lt HQ.out (b := b.toNat % 128) (by omega) (.inr ⟨rfl, by omega⟩)
            have e : (q : Int) + b % 128 * 9223372036854775808 = ((q + b.toNat % 128 * 2 ^ (7 * 9) : Nat) : Int) := by omega
            show _ = _
            rw [e, wrap_u64 hlt]
          rcases Int.lt_or_le 0 b with hb0 | hb0
          · go_wp2_with fail
            go_ret3
            have he := HE.out
            simp only [getR] at he
            rw [if_neg (by omega), if_neg (by omega), if_neg (by omega)] at he
            rw [← he]
            refine ⟨?_, rfl⟩
            show Ending.returned (.tuple #[.int .u64 _, .int .i64 _, .int .i64 _]) = _
            rw [← HV.out]
            rfl
          · go_wp2_with fail
            go_ret3
            have he := HE.out
            simp only [getR] at he
            rw [if_neg (by omega), if_neg (by omega), if_pos (by first | omega | exact ⟨trivial, by omega⟩)] at he
            rw [← he]
            exact ⟨rfl, rfl⟩
    · obtain rfl : k = xs.length := by omega
      go_wp2_with fail
      go_ret3
      obtain ⟨_, _, he⟩ := hrel.out
      rw [List.drop_length] at he
      rw [← he]
      exact ⟨rfl, rfl⟩
end Go.Proofs.Ytlpigldogglmcaa
