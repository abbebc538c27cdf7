/- The functions of layer 9 (wire), walked. -/
import Derived.Test.YtlpigldogglmcaaBytes
import Derived.Test.YtlpigldogglmcaaWireP
set_option linter.unusedVariables false
set_option linter.unusedSimpArgs false
namespace Go.Proofs.Ytlpigldogglmcaa
open Go.RowKit
open Go.Proofs.YtlpigldogglmcaaW.PrintWords

theorem wire_room (A : Option Addr) (n c : Nat) (hc : n ≤ c) (w : World) (hm : n ≤ 140737488355328) :
    Calls Try.prog 80 #[.slice A n c] w fun r w' => r = .returned (.slice A n n) ∧ w = w' := by
  have hr := run_room A n c hc
  go_enter Try.func80, Try.ntmps80
  go_wp2
  go_ret
  exact ⟨rfl, rfl⟩

theorem or128' : ∀ x : Fin 256, bits BinOp.or .u8 ((x.1 : Nat) : Int) 128 = ((x.1 % 128 + 128 : Nat) : Int) := by decide +kernel
theorem or128 (q : Nat) : bits BinOp.or .u8 ((q : Int) % 256) 128 = ((q % 128 + 128 : Nat) : Int) := by
  have h := or128' ⟨q % 256, by omega⟩
  rw [show ((q : Int) % 256) = ((q % 256 : Nat) : Int) from by omega, h]
  show ((q % 256 % 128 + 128 : Nat) : Int) = _
  omega
set_option maxRecDepth 100000 in
set_option maxHeartbeats 400000 in
theorem wire_put (A : Option Addr) (xs : List Int) (c m : Nat) (w : World) (hc : xs.length ≤ c) (hr : RdB w A xs) (hl : xs.length ≤ 140737488355300) (hm : m < 18446744073709551616) :
    Calls Try.prog 46 #[.slice A xs.length c, .int .u64 m] w fun r w' => ∃ v, r = .returned v ∧ OwB w' w.heap.size v (xs ++ digs m) ∧ Fr (fun _ => False) w w' := by
  have hdl := digs_len10 hm
  have HM := Lib.hid hm
  clear hm
  go_enter Try.func46, Try.ntmps46
  go_wp2_with fail
  go_step3
  go_wp2_with fail
  refine (wire_room A xs.length c hc w (by omega)).mono ?_
  rintro r w1 ⟨rfl, rfl⟩
  go_wp2_with fail
  go_step3
  go_wp2_with fail
  go_loopw [0, 1] (fun v n wr => ∃ (pre : List Int) (q : Nat), n = .int .u64 q ∧ Hid (q ≤ m ∧ pre ++ digs q = xs ++ digs m ∧ ApB wr w.heap.size v pre ∧ Fr (fun _ => False) w wr)) (fun _ n _ => (intOf n).toNat)
  case atStart => exact ⟨xs, m, rfl, ⟨Nat.le_refl _, rfl, .inl ⟨A, rfl, hr⟩, Fr.refl _ _⟩⟩
  case round =>
    obtain ⟨pre, q, rfl, hrel⟩ := hrel
    obtain ⟨hq, he, HO, G⟩ := hrel.out
    clear hrel
    have hlen : pre.length + (digs q).length ≤ 140737488355328 := by
      have := congrArg List.length he
      rw [List.length_append, List.length_append] at this
      omega
    have HL := Lib.hid hlen
    have HE := Lib.hid he
    have HHO := Lib.hid HO
    clear hlen he
    obtain ⟨A1, c1, rfl⟩ := HO.form
    have hb1 : pre.length + 1 ≤ 140737488355328 := by have := HL.out; have := digs_pos q; omega
    have hb2 := G.size
    clear HO hl hdl hc hr
    rcases Nat.lt_or_ge q 128 with hlt | hge
    · go_wp2_with (at_builtin; go_must (refine append8 w.heap.size rfl _ _ rfl (.slice A1 pre.length c1) pre _ rfl rfl HHO.out hb2 hb1 ?_); intro v1 w1 hown hF)
      rw [Exit.noGoto_ret]
      go_ret
      have he := HE.out
      rw [digs_small hlt] at he
      rw [he] at hown
      exact ⟨_, rfl, hown, G.trans' hF (fun i hi hk => by have := hk.1; omega)⟩
    · go_wp2_with (at_builtin; go_must (refine append8 w.heap.size rfl _ _ rfl (.slice A1 pre.length c1) pre _ rfl rfl HHO.out hb2 hb1 ?_); intro v1 w1 hown hF)
      refine ⟨⟨pre ++ [((q % 128 + 128 : Nat) : Int)], q / 128, rfl, by omega, ?_, ?_, G.trans' hF (fun i hi hk => by have := hk.1; omega)⟩, ?_⟩
      · have he := HE.out
        rw [digs_big hge] at he
        rw [← he, List.append_assoc]
        rfl
      · rw [← or128 q]
        exact .inr hown
      · simp only [intOf]
        omega

theorem u64_of_nat {n : Nat} (h : (n : Int) ≤ 9223372036854775807) : IntKind.u64.wrap (n : Int) = n := by
  simp [IntKind.wrap, IntKind.bits, IntKind.signed]
  omega

set_option maxRecDepth 100000 in
set_option maxHeartbeats 400000 in
theorem wire_putText (A : Option Addr) (xs : List Int) (c : Nat) (s : ByteArray) (w : World) (hc : xs.length ≤ c) (hr : RdB w A xs) (hl : xs.length + s.size ≤ 140737488355300) :
    Calls Try.prog 47 #[.slice A xs.length c, .string s] w fun r w' => ∃ v, r = .returned v ∧ OwB w' w.heap.size v (xs ++ digs s.size ++ bytesOf s) ∧ Fr (fun _ => False) w w' := by
  have hs : (s.size : Int) ≤ 9223372036854775807 := by omega
  have hu := u64_of_nat hs
  go_enter Try.func47, Try.ntmps47
  go_wp2_with fail
  refine (wire_put A xs c s.size w hc hr (by omega) (by omega)).mono ?_
  rintro r w1 ⟨v, rfl, hown, hF⟩
  have hdl := digs_len10 (m := s.size) (by omega)
  have hl2 : (xs ++ digs s.size).length + s.size ≤ 140737488355328 := by rw [List.length_append]; omega
  obtain ⟨ys, hys⟩ : ∃ ys, Hid (xs ++ digs s.size = ys) := ⟨_, rfl⟩
  rw [hys.out] at hown hl2
  obtain ⟨A1, c1, rfl, hr1⟩ := hown.reads
  have hb := hF.size
  clear hl hr hs hu hdl
  go_wp2_with (at_builtin; go_must (refine append8_str w.heap.size rfl _ _ rfl (.slice A1 ys.length c1) ys s rfl rfl hown hb hl2 ?_); intro v1 w2 hown1 hF1)
  go_ret
  rw [hys.out]
  exact ⟨_, rfl, hown1, hF.trans' hF1 (fun i hi hk => by have := hk.1; omega)⟩

/-- Eight bytes of a number from the place sh on, the high ones first. -/
def beTo (m : Nat) : Nat → List Int
  | 0 => []
  | k + 1 => ((m / 256 ^ k % 256 : Nat) : Int) :: beTo m k
def be8 (m : Nat) : List Int := beTo m 8

theorem be_val (m k : Nat) : (m : Int) / 2 ^ (8 * (k + 1) - 8) % 256 = ((m / 256 ^ k % 256 : Nat) : Int) := by
  have e : (2 : Int) ^ (8 * (k + 1) - 8) = ((256 ^ k : Nat) : Int) := by
    rw [show 8 * (k + 1) - 8 = 8 * k from by omega, Int.pow_mul]
    simp
  rw [e]
  rfl
set_option maxRecDepth 100000 in
set_option maxHeartbeats 400000 in
theorem wire_eight (A : Option Addr) (xs : List Int) (c m : Nat) (w : World) (hc : xs.length ≤ c) (hr : RdB w A xs) (hl : xs.length ≤ 140737488355300) (hm : m < 18446744073709551616) :
    Calls Try.prog 48 #[.slice A xs.length c, .int .u64 m] w fun r w' => ∃ v, r = .returned v ∧ OwB w' w.heap.size v (xs ++ be8 m) ∧ Fr (fun _ => False) w w' := by
  have HM := Lib.hid hm
  clear hm
  go_enter Try.func48, Try.ntmps48
  go_wp2_with fail
  refine (wire_room A xs.length c hc w (by omega)).mono ?_
  rintro r w1 ⟨rfl, rfl⟩
  go_wp2_with fail
  go_loopw [0, 5] (fun v i wr => ∃ (k : Nat) (pre : List Int), k ≤ 8 ∧ i = .int .i64 (8 * (k : Int) - 8) ∧ Hid (pre ++ beTo m k = xs ++ be8 m ∧ ApB wr w.heap.size v pre ∧ (k < 8 → OwB wr w.heap.size v pre) ∧ Fr (fun _ => False) w wr)) (fun _ i _ => (intOf i + 8).toNat)
  case atStart => exact ⟨8, xs, by omega, rfl, ⟨rfl, .inl ⟨A, rfl, hr⟩, fun h => by omega, Fr.refl _ _⟩⟩
  case round =>
    obtain ⟨k, pre, hk, rfl, hrel⟩ := hrel
    obtain ⟨he, HO, HO2, G⟩ := hrel.out
    clear hrel
    have hlen : pre.length + (beTo m k).length ≤ 140737488355328 := by
      have := congrArg List.length he
      rw [List.length_append, List.length_append] at this
      have : (be8 m).length = 8 := rfl
      omega
    obtain ⟨A1, c1, rfl⟩ := HO.form
    have HE := Lib.hid he
    have HHO := Lib.hid HO
    have hb2 := G.size
    have HHO2 := Lib.hid HO2
    clear HO HO2 hl hc hr he
    match k, hk, HE, hlen, HHO2 with
    | 0, hk, HE, hlen, HHO2 =>
      go_wp2_with fail
      go_ret
      have he := HE.out
      simp only [beTo, List.append_nil] at he
      subst he
      exact ⟨_, rfl, HHO2.out (by omega), G⟩
    | k + 1, hk, HE, hlen, HHO2 =>
      have hb1 : pre.length + 1 ≤ 140737488355328 := by simp only [beTo, List.length_cons] at hlen; omega
      clear hlen
      go_wp2_with (at_builtin; go_must (refine append8 w.heap.size rfl _ _ rfl (.slice A1 pre.length c1) pre _ rfl rfl HHO.out hb2 hb1 ?_); intro v1 w1 hown hF)
      refine ⟨⟨k, pre ++ [((m / 256 ^ k % 256 : Nat) : Int)], by omega, congrArg _ (by omega), ?_, ?_, ?_, G.trans' hF (fun i hi hk => by have := hk.1; omega)⟩, ?_⟩
      · have he := HE.out
        rw [← he, List.append_assoc]
        rfl
      · rw [← be_val m k]
        exact .inr hown
      · intro _
        rw [← be_val m k]
        exact hown
      · simp only [intOf]
        omega
end Go.Proofs.Ytlpigldogglmcaa
