/- Texts of VaultApplies, merged (13 of 33): WireP, WireW, WireG, WireR, WireQ, DigW. -/
import Derived.Test.YtepfhcimmbkilaaGVaultApplies1
import Derived.Test.YtepfhcimmbkilaaWWords
import Derived.Test.YtepfhcimmbkilaaGVaultApplies12
import Derived.Laws.BitsAllLaws
set_option linter.unusedVariables false
set_option linter.unusedSimpArgs false
/- The bytes of numbers: plain lists. -/
namespace Go.Proofs.Ytepfhcimmbkilaa

/-- A number's bytes, seven bits each, the low ones first. -/
def digs (m : Nat) : List Int := if m < 128 then [(m : Int)] else ((m % 128 + 128 : Nat) : Int) :: digs (m / 128)
termination_by m
decreasing_by omega
theorem digs_small {m : Nat} (h : m < 128) : digs m = [(m : Int)] := by rw [digs, if_pos h]
theorem digs_big {m : Nat} (h : 128 ≤ m) : digs m = ((m % 128 + 128 : Nat) : Int) :: digs (m / 128) := by rw [digs, if_neg (by omega)]
theorem digs_len (k : Nat) : ∀ m, m < 128 ^ (k + 1) → (digs m).length ≤ k + 1 := by
  induction k with
  | zero => intro m h; rw [digs_small (by simpa using h)]; simp
  | succ k ih =>
    intro m h
    rcases Nat.lt_or_ge m 128 with h1 | h1
    · rw [digs_small h1]; simp
    · rw [digs_big h1, List.length_cons]
      have := ih (m / 128) (by rw [Nat.div_lt_iff_lt_mul (by omega)]; rw [Nat.pow_succ] at h; exact h)
      omega
theorem digs_len10 {m : Nat} (h : m < 18446744073709551616) : (digs m).length ≤ 10 := digs_len 9 m (by omega)
theorem digs_pos (m : Nat) : 0 < (digs m).length := by
  rcases Nat.lt_or_ge m 128 with h | h
  · rw [digs_small h]; simp
  · rw [digs_big h]; simp

/-- What bytes begin with: number, bytes taken, error; the i-th byte stands next, n is what was read. -/
def getR : List Int → Nat → Nat → Nat × Nat × Int
  | [], _, _ => (0, 0, 4)
  | c :: r, i, n =>
    if i = 9 ∧ 1 < c then (0, 0, 3)
    else if 128 ≤ c then getR r (i + 1) (n + (c.toNat % 128) * 2 ^ (7 * i))
    else if c = 0 ∧ 0 < i then (0, 0, 3)
    else (n + (c.toNat % 128) * 2 ^ (7 * i), i + 1, 0)
theorem drop_rd {xs : List Int} {k : Nat} (h : k < xs.length) : xs.drop k = Go.Proofs.YtepfhcimmbkilaaW.PrintWords.rd xs k :: xs.drop (k + 1) := by
  rw [List.drop_eq_getElem_cons h]
  simp [Go.Proofs.YtepfhcimmbkilaaW.PrintWords.rd, List.getD_eq_getElem?_getD, List.getElem?_eq_getElem h]
theorem rd_mem {xs : List Int} {k : Nat} (h : k < xs.length) : Go.Proofs.YtepfhcimmbkilaaW.PrintWords.rd xs k ∈ xs := by
  simp [Go.Proofs.YtepfhcimmbkilaaW.PrintWords.rd, List.getD_eq_getElem?_getD, List.getElem?_eq_getElem h]
theorem step_lt0 {n c i : Nat} (hn : n < 2 ^ (7 * i)) (hc : c < 128) : n + c * 2 ^ (7 * i) < 2 ^ (7 * (i + 1)) := by
  have h1 : c * 2 ^ (7 * i) ≤ 127 * 2 ^ (7 * i) := Nat.mul_le_mul_right _ (by omega)
  have h2 : 2 ^ (7 * (i + 1)) = 128 * 2 ^ (7 * i) := by rw [Nat.mul_add, Nat.pow_add, Nat.mul_comm]
  omega
theorem getR_ok : ∀ (l : List Int) (i n m k : Nat), getR l i n = (m, k, 0) → i < k ∧ k ≤ i + l.length
  | [], i, n, m, k, h => by simp [getR] at h
  | c :: r, i, n, m, k, h => by
    simp only [getR] at h
    split at h
    · simp at h
    · split at h
      · have := getR_ok r _ _ _ _ h
        simp only [List.length_cons]
        omega
      · split at h
        · simp at h
        · simp only [Prod.mk.injEq] at h
          simp only [List.length_cons]
          omega
theorem getR_err : ∀ (l : List Int) (i n : Nat), (getR l i n).2.2 ≠ 0 → (getR l i n).1 = 0 ∧ (getR l i n).2.1 = 0
  | [], i, n, h => by simp [getR]
  | c :: r, i, n, h => by
    simp only [getR] at h ⊢
    split
    · simp
    · rename_i h1
      rw [if_neg h1] at h
      split
      · rename_i h2
        rw [if_pos h2] at h
        exact getR_err r _ _ h
      · rename_i h2
        rw [if_neg h2] at h
        split
        · simp
        · rename_i h3
          rw [if_neg h3] at h
          exact absurd rfl h
theorem getR_lt : ∀ (l : List Int) (i n : Nat), i ≤ 9 → n < 2 ^ (7 * i) → (∀ x ∈ l, 0 ≤ x ∧ x ≤ 255) → (getR l i n).1 < 18446744073709551616
  | [], i, n, _, _, _ => by simp [getR]
  | c :: r, i, n, hi, hn, hb => by
    obtain ⟨h0, h1⟩ := hb c (List.mem_cons_self)
    simp only [getR]
    split
    · simp
    · rename_i h2
      have hlt : n + c.toNat % 128 * 2 ^ (7 * i) < 18446744073709551616 := by
        rcases Nat.lt_or_ge i 9 with h9 | h9
        · have h1 := step_lt0 hn (c := c.toNat % 128) (by omega)
          have h2 : 2 ^ (7 * (i + 1)) ≤ 2 ^ 63 := Nat.pow_le_pow_right (by omega) (by omega)
          omega
        · obtain rfl : i = 9 := by omega
          have h1 : c.toNat % 128 * 2 ^ (7 * 9) ≤ 1 * 2 ^ (7 * 9) := Nat.mul_le_mul_right _ (by omega)
          omega
      split
      · rename_i h3
        exact getR_lt r _ _ (by omega) (step_lt0 hn (by omega)) (fun x hx => hb x (List.mem_cons_of_mem _ hx))
      · split
        · simp
        · exact hlt
/-- One more seven bits: no carry. -/
theorem step_lt {n c i : Nat} (hn : n < 2 ^ (7 * i)) (hc : c < 128) : n + c * 2 ^ (7 * i) < 2 ^ (7 * (i + 1)) := by
  have h1 : c * 2 ^ (7 * i) ≤ 127 * 2 ^ (7 * i) := Nat.mul_le_mul_right _ (by omega)
  have h2 : 2 ^ (7 * (i + 1)) = 128 * 2 ^ (7 * i) := by rw [Nat.mul_add, Nat.pow_add, Nat.mul_comm]
  omega
theorem step_or {n c i : Nat} (hn : n < 2 ^ (7 * i)) : n ||| (c * 2 ^ (7 * i)) = n + c * 2 ^ (7 * i) := by
  rw [Nat.mul_comm, Nat.or_comm, Nat.add_comm, ← Nat.two_pow_add_eq_or_of_lt hn]

/-- The number of bytes, the high ones first. -/
def beVal (l : List Int) : Nat := l.foldl (fun n c => n * 256 + c.toNat) 0
theorem beVal_snoc (l : List Int) (c : Int) : beVal (l ++ [c]) = beVal l * 256 + c.toNat := by simp [beVal]
theorem beVal_lt : ∀ (l : List Int), (∀ x ∈ l, 0 ≤ x ∧ x ≤ 255) → beVal l < 256 ^ l.length := by
  have key : ∀ (l : List Int) (n k : Nat), n < 256 ^ k → (∀ x ∈ l, 0 ≤ x ∧ x ≤ 255) → l.foldl (fun n c => n * 256 + c.toNat) n < 256 ^ (k + l.length) := by
    intro l
    induction l with
    | nil => intro n k h _; simpa using h
    | cons c l ih =>
      intro n k h hb
      obtain ⟨h0, h1⟩ := hb c List.mem_cons_self
      have := ih (n * 256 + c.toNat) (k + 1) (by rw [Nat.pow_succ]; omega) (fun x hx => hb x (List.mem_cons_of_mem _ hx))
      simpa [Nat.add_assoc, Nat.add_comm 1] using this
  intro l hb
  have := key l 0 0 (by simp) hb
  simpa [beVal] using this
theorem take_rd {xs : List Int} {k : Nat} (h : k < xs.length) : xs.take (k + 1) = xs.take k ++ [Go.Proofs.YtepfhcimmbkilaaW.PrintWords.rd xs k] := by
  rw [List.take_succ_eq_append_getElem h]
  simp [Go.Proofs.YtepfhcimmbkilaaW.PrintWords.rd, List.getD_eq_getElem?_getD, List.getElem?_eq_getElem h]
/-- The text that bytes begin with. -/
def textR (xs : List Int) (most : Int) : List Int × Nat × Int :=
  if (getR xs 0 0).2.2 ≠ 0 then ([], 0, (getR xs 0 0).2.2)
  else if most < 0 ∨ most < (getR xs 0 0).1 then ([], 0, 18)
  else if xs.length - (getR xs 0 0).2.1 < (getR xs 0 0).1 then ([], 0, 4)
  else ((xs.take ((getR xs 0 0).2.1 + (getR xs 0 0).1)).drop (getR xs 0 0).2.1, (getR xs 0 0).2.1 + (getR xs 0 0).1, 0)
end Go.Proofs.Ytepfhcimmbkilaa
/- The functions of layer 9 (wire), walked. -/
namespace Go.Proofs.Ytepfhcimmbkilaa
open Go.RowKit
open Go.Proofs.YtepfhcimmbkilaaW.PrintWords

theorem wire_room (A : Option Addr) (n c : Nat) (hc : n ≤ c) (w : World) (hm : n ≤ 140737488355328) :
    Calls Try.prog 58 #[.slice A n c] w fun r w' => r = .returned (.slice A n n) ∧ w = w' := by
  have hr := run_room A n c hc
  go_enter Try.func58, Try.ntmps58
  go_wp2
  go_ret
  exact ⟨rfl, rfl⟩

theorem or128' : ∀ x : Fin 256, bits BinOp.or .u8 ((x.1 : Nat) : Int) 128 = ((x.1 % 128 + 128 : Nat) : Int) := by decide +kernel
theorem or128 (q : Nat) : bits BinOp.or .u8 ((q : Int) % 256) 128 = ((q % 128 + 128 : Nat) : Int) := by
  have h := or128' ⟨q % 256, by omega⟩
  rw [show ((q : Int) % 256) = ((q % 256 : Nat) : Int) from by omega, h]
  show ((q % 256 % 128 + 128 : Nat) : Int) = _
  omega
theorem u64_of_nat {n : Nat} (h : (n : Int) ≤ 9223372036854775807) : IntKind.u64.wrap (n : Int) = n := by
  simp [IntKind.wrap, IntKind.bits, IntKind.signed]
  omega

/-- Eight bytes of a number from the place sh on, the high ones first. -/
def beTo (m : Nat) : Nat → List Int
  | 0 => []
  | k + 1 => ((m / 256 ^ k % 256 : Nat) : Int) :: beTo m k
def be8 (m : Nat) : List Int := beTo m 8

theorem be_val (m k : Nat) : (m : Int) / 2 ^ (8 * (k + 1) - 8) % 256 = ((m / 256 ^ k % 256 : Nat) : Int) := by
  have e : (2 : Int) ^ (8 * (k + 1) - 8) = ((256 ^ k : Nat) : Int) := by
    rw [show 8 * (k + 1) - 8 = 8 * k from by omega, Int.pow_mul]
    simp
  rw [e]
  rfl
set_option maxRecDepth 100000 in
set_option maxHeartbeats 400000 in
theorem wire_eight (A : Option Addr) (xs : List Int) (c m : Nat) (w : World) (hc : xs.length ≤ c) (hr : RdB w A xs) (hl : xs.length ≤ 140737488355300) (hm : m < 18446744073709551616) :
    Calls Try.prog 40 #[.slice A xs.length c, .int .u64 m] w fun r w' => ∃ v, r = .returned v ∧ OwB w' w.heap.size v (xs ++ be8 m) ∧ Fr (fun _ => False) w w' := by
  have HM := Lib.hid hm
  clear hm
  go_enter Try.func40, Try.ntmps40
  go_wp2_with fail
  refine (wire_room A xs.length c hc w (by omega)).mono ?_
  rintro r w1 ⟨rfl, rfl⟩
  go_wp2_with fail
  go_loopw [0, 5] (fun v i wr => ∃ (k : Nat) (pre : List Int), k ≤ 8 ∧ i = .int .i64 (8 * (k : Int) - 8) ∧ Hid (pre ++ beTo m k = xs ++ be8 m ∧ ApB wr w.heap.size v pre ∧ (k < 8 → OwB wr w.heap.size v pre) ∧ Fr (fun _ => False) w wr)) (fun _ i _ => (intOf i + 8).toNat)
  case atStart => exact ⟨8, xs, by omega, rfl, ⟨rfl, .inl ⟨A, rfl, hr⟩, fun h => by omega, Fr.refl _ _⟩⟩
  case round =>
    obtain ⟨k, pre, hk, rfl, hrel⟩ := hrel
    obtain ⟨he, HO, HO2, G⟩ := hrel.out
    clear hrel
    have hlen : pre.length + (beTo m k).length ≤ 140737488355328 := by
      have := congrArg List.length he
      rw [List.length_append, List.length_append] at this
      have : (be8 m).length = 8 := rfl
      omega
    obtain ⟨A1, c1, rfl⟩ := HO.form
    have HE := Lib.hid he
    have HHO := Lib.hid HO
    have hb2 := G.size
    have HHO2 := Lib.hid HO2
    clear HO HO2 hl hc hr he
    match k, hk, HE, hlen, HHO2 with
    | 0, hk, HE, hlen, HHO2 =>
      go_wp2_with fail
      go_ret
      have he := HE.out
      simp only [beTo, List.append_nil] at he
      subst he
      exact ⟨_, rfl, HHO2.out (by omega), G⟩
    | k + 1, hk, HE, hlen, HHO2 =>
      have hb1 : pre.length + 1 ≤ 140737488355328 := by simp only [beTo, List.length_cons] at hlen; omega
      clear hlen
      go_wp2_with (at_builtin; go_must (refine append8 w.heap.size rfl _ _ rfl (.slice A1 pre.length c1) pre _ rfl rfl HHO.out hb2 hb1 ?_); intro v1 w1 hown hF)
      refine ⟨⟨k, pre ++ [((m / 256 ^ k % 256 : Nat) : Int)], by omega, congrArg _ (by omega), ?_, ?_, ?_, G.trans' hF (fun i hi hk => by have := hk.1; omega)⟩, ?_⟩
      · have he := HE.out
        rw [← he, List.append_assoc]
        rfl
      · rw [← be_val m k]
        exact .inr hown
      · intro _
        rw [← be_val m k]
        exact hown
      · simp only [intOf]
        omega
end Go.Proofs.Ytepfhcimmbkilaa
/- The functions of layer 9 (wire) that read, walked. -/
namespace Go.Proofs.Ytepfhcimmbkilaa
open Go.RowKit
open Go.Proofs.YtepfhcimmbkilaaW.PrintWords

def Byt (xs : List Int) : Prop := ∀ x ∈ xs, 0 ≤ x ∧ x ≤ 255

theorem and127 {b : Int} (h0 : 0 ≤ b) (h1 : b ≤ 255) : bits BinOp.and .u8 b 127 = ((b.toNat % 128 : Nat) : Int) := by
  have h := u8_and_nat b.toNat 127 (by omega) (by omega)
  rw [show ((b.toNat : Nat) : Int) = b from by omega] at h
  rw [show ((127 : Nat) : Int) = 127 from rfl] at h
  rw [h]
  have : b.toNat &&& 127 = b.toNat % 128 := Nat.and_two_pow_sub_one_eq_mod b.toNat 7
  omega
theorem wrap_u64 {n : Nat} (h : n < 18446744073709551616) : IntKind.u64.wrap (n : Int) = n := by
  simp [IntKind.wrap, IntKind.bits, IntKind.signed]
  omega
theorem part_lt {k q b : Nat} (hq : q < 2 ^ (7 * k)) (hb : b < 128) (h : k ≤ 8 ∨ (k = 9 ∧ b ≤ 1)) : q + b * 2 ^ (7 * k) < 18446744073709551616 := by
  rcases h with h | ⟨rfl, hb1⟩
  · have h1 := step_lt hq hb
    have h2 : 2 ^ (7 * (k + 1)) ≤ 2 ^ 63 := Nat.pow_le_pow_right (by omega) (by omega)
    omega
  · have h1 : b * 2 ^ (7 * 9) ≤ 1 * 2 ^ (7 * 9) := Nat.mul_le_mul_right _ hb1
    omega
theorem getval {k q : Nat} {b : Int} (h0 : 0 ≤ b) (h1 : b ≤ 255) (hq : q < 2 ^ (7 * k)) (h : k ≤ 8 ∨ (k = 9 ∧ b ≤ 1)) :
    bits BinOp.or .u64 (q : Int) (IntKind.u64.wrap (IntKind.u64.wrap (bits BinOp.and .u8 b 127) * 2 ^ (7 * k))) = ((q + b.toNat % 128 * 2 ^ (7 * k) : Nat) : Int) := by
  have hb : b.toNat % 128 < 128 := by omega
  have hlt := part_lt hq hb (by omega)
  have e : ((b.toNat % 128 : Nat) : Int) * 2 ^ (7 * k) = ((b.toNat % 128 * 2 ^ (7 * k) : Nat) : Int) := by simp
  rw [and127 h0 h1, wrap_u64 (by omega), e, wrap_u64 (by omega), bits_or_u64_nat _ _ (by omega) (by omega), step_or hq]

theorem orlow {q : Nat} {b : Int} (h0 : 0 ≤ b) (h1 : b ≤ 255) (hq : q < 72057594037927936) :
    bits BinOp.or .u64 (IntKind.u64.wrap ((q : Int) * 256)) b = ((q * 256 + b.toNat : Nat) : Int) := by
  have e : (q : Int) * 256 = ((q * 256 : Nat) : Int) := by simp
  rw [e, wrap_u64 (by omega)]
  have h := bits_or_u64_nat (q * 256) b.toNat (by omega) (by omega)
  rw [show ((b.toNat : Nat) : Int) = b from by omega] at h
  rw [h]
  have h2 := Nat.two_pow_add_eq_or_of_lt (i := 8) (b := b.toNat) (by omega) q
  rw [show 2 ^ 8 * q = q * 256 from by omega] at h2
  rw [h2]

end Go.Proofs.Ytepfhcimmbkilaa
/- The reference's functions of layer 9 (wire), walked. -/
namespace Go.Proofs.Ytepfhcimmbkilaa
open Go.RowKit
open Go.Proofs.YtepfhcimmbkilaaW.PrintWords

theorem ow_lit0 (w : World) : OwB (w.alloc (.cells #[] 5)) w.heap.size (.slice (some ⟨w.heap.size, 0, none⟩) 0 0) [] :=
  own_lit w w.heap.size 5 .u8 [] (Nat.le_refl _) (by simp)

theorem be_val2 (m k : Nat) : (m : Int) / 2 ^ (8 * k) % 256 = ((m / 256 ^ k % 256 : Nat) : Int) := by
  have h := be_val m k
  rwa [show 8 * (k + 1) - 8 = 8 * k from by omega] at h

set_option maxRecDepth 100000 in
set_option maxHeartbeats 400000 in
theorem ref_big (m : Nat) (w : World) (hm : m < 18446744073709551616) :
    Calls Try.prog 53 #[.int .u64 m] w fun r w' => ∃ v, r = .returned v ∧ OwB w' w.heap.size v (be8 m) ∧ Fr (fun _ => False) w w' := by
  have HM := Lib.hid hm
  clear hm
  go_enter Try.func53, Try.ntmps53
  go_wp2_with fail
  go_loopw [3, 4] (fun v i wr => ∃ (k : Nat) (pre : List Int), k ≤ 8 ∧ i = .int .i64 ((k : Int) - 1) ∧ Hid (pre ++ beTo m k = be8 m ∧ OwB wr w.heap.size v pre ∧ Fr (fun _ => False) w wr)) (fun _ i _ => (intOf i + 1).toNat)
  case atStart => exact ⟨8, [], by omega, rfl, ⟨rfl, ow_lit0 w, (Fr.refl _ _).alloc _⟩⟩
  case round =>
    obtain ⟨k, pre, hk, rfl, hrel⟩ := hrel
    obtain ⟨he, HO, G⟩ := hrel.out
    clear hrel
    have hlen : pre.length + (beTo m k).length = 8 := by
      have := congrArg List.length he
      rw [List.length_append] at this
      exact this
    obtain ⟨A1, c1, rfl, _⟩ := HO.reads
    have HE := Lib.hid he
    have HHO := Lib.hid (show ApB wr w.heap.size (.slice A1 pre.length c1) pre from .inr HO)
    have HO1 := Lib.hid HO
    have hb2 := G.size
    clear HO he
    match k, hk, HE, hlen with
    | 0, hk, HE, hlen =>
      clear hlen
      go_wp2_with fail
      go_ret
      have he := HE.out
      simp only [beTo, List.append_nil] at he
      rw [← he]
      exact ⟨_, rfl, HO1.out, G⟩
    | k + 1, hk, HE, hlen =>
      have hb1 : pre.length + 1 ≤ 140737488355328 := by omega
      clear hlen
      go_wp2_with (at_builtin; go_must (refine append8 w.heap.size rfl _ _ rfl (.slice A1 pre.length c1) pre _ rfl rfl HHO.out hb2 hb1 ?_); intro v1 w1 hown hF)
      refine ⟨⟨k, pre ++ [((m / 256 ^ k % 256 : Nat) : Int)], by omega, congrArg _ (by omega), ?_, ?_, G.trans' hF (fun i hi hk => by have := hk.1; omega)⟩, ?_⟩
      · have he := HE.out
        rw [← he, List.append_assoc]
        rfl
      · rw [← be_val2 m k]
        exact hown
      · simp only [intOf]
        omega

theorem getval2 {k q : Nat} {b : Int} (h0 : 0 ≤ b) (h1 : b ≤ 255) (hq : q < 2 ^ (7 * k)) (h : k ≤ 8 ∨ (k = 9 ∧ b ≤ 1)) :
    IntKind.u64.wrap ((q : Int) + IntKind.u64.wrap (b % 128 * 2 ^ (7 * k))) = ((q + b.toNat % 128 * 2 ^ (7 * k) : Nat) : Int) := by
  have hb : b.toNat % 128 < 128 := by omega
  have hlt := part_lt hq hb (by omega)
  have e0 : b % 128 = ((b.toNat % 128 : Nat) : Int) := by omega
  have e : ((b.toNat % 128 : Nat) : Int) * 2 ^ (7 * k) = ((b.toNat % 128 * 2 ^ (7 * k) : Nat) : Int) := by simp
  rw [e0, e, wrap_u64 (by omega), ← Int.natCast_add, wrap_u64 hlt]
end Go.Proofs.Ytepfhcimmbkilaa
/- What is put is got: plain lists. -/
namespace Go.Proofs.Ytepfhcimmbkilaa
open Go.Proofs.YtepfhcimmbkilaaW.PrintWords

theorem getR_digs (r : List Int) : ∀ (k m i n : Nat), m < 128 ^ (k + 1) → i ≤ 9 → m * 2 ^ (7 * i) < 18446744073709551616 → (i = 0 ∨ 0 < m) →
    getR (digs m ++ r) i n = (n + m * 2 ^ (7 * i), i + (digs m).length, 0) := by
  intro k
  induction k with
  | zero =>
    intro m i n hk hi hm h0
    have hs : m < 128 := by simpa using hk
    rw [digs_small hs]
    simp only [List.cons_append, List.nil_append, getR, List.length_singleton]
    rw [if_neg, if_neg (by omega), if_neg (by omega)]
    · simp only [Int.toNat_natCast, Nat.mod_eq_of_lt hs]
    · rintro ⟨rfl, h1⟩
      omega
  | succ k ih =>
    intro m i n hk hi hm h0
    rcases Nat.lt_or_ge m 128 with hs | hs
    · rw [digs_small hs]
      simp only [List.cons_append, List.nil_append, getR, List.length_singleton]
      rw [if_neg, if_neg (by omega), if_neg (by omega)]
      · simp only [Int.toNat_natCast, Nat.mod_eq_of_lt hs]
      · rintro ⟨rfl, h1⟩
        omega
    · have hi8 : i ≤ 8 := by
        rcases Nat.lt_or_ge i 9 with h | h
        · omega
        · obtain rfl : i = 9 := by omega
          omega
      rw [digs_big hs]
      simp only [List.cons_append, getR, List.length_cons]
      rw [if_neg (by omega), if_pos (by omega)]
      have e1 : 2 ^ (7 * (i + 1)) = 128 * 2 ^ (7 * i) := by rw [Nat.mul_add, Nat.pow_add, Nat.mul_comm]
      have e2 : m / 128 * 2 ^ (7 * (i + 1)) = (m / 128 * 128) * 2 ^ (7 * i) := by rw [e1, Nat.mul_assoc]
      have e3 : m * 2 ^ (7 * i) = (m / 128 * 128) * 2 ^ (7 * i) + (m % 128) * 2 ^ (7 * i) := by rw [← Nat.add_mul]; congr 1; omega
      rw [ih (m / 128) (i + 1) _ (by rw [Nat.div_lt_iff_lt_mul (by omega)]; rw [Nat.pow_succ] at hk; exact hk) (by omega) (by omega) (.inr (by omega))]
      rw [e2, e3]
      have e4 : (((m % 128 + 128 : Nat) : Int)).toNat % 128 = m % 128 := by omega
      rw [e4]
      simp only [Prod.mk.injEq, and_true]
      omega
theorem get_digs {m : Nat} (r : List Int) (h : m < 18446744073709551616) : getR (digs m ++ r) 0 0 = (m, (digs m).length, 0) := by
  have := getR_digs r 9 m 0 0 (by omega) (by omega) (by simpa using h) (.inl rfl)
  simpa using this
theorem bytes_str (s : ByteArray) : strOfNums (bytesOf s) = s := by
  obtain ⟨⟨l⟩⟩ := s
  simp only [strOfNums, bytesOf, List.map_map]
  congr 2
  have : ∀ l : List UInt8, l.map ((fun n : Int => UInt8.ofNat n.toNat) ∘ fun b : UInt8 => (b.toNat : Int)) = l := by
    intro l
    induction l with
    | nil => rfl
    | cons x r ih => simp only [List.map_cons, ih, Function.comp]; simp
  exact this l
theorem bytes_byt (s : ByteArray) : Byt (bytesOf s) := by
  intro x hx
  simp only [bytesOf, List.mem_map] at hx
  obtain ⟨b, _, rfl⟩ := hx
  have := b.toNat_lt
  omega
theorem digs_byt (k : Nat) : ∀ m, m < 128 ^ (k + 1) → Byt (digs m) := by
  induction k with
  | zero => intro m h x hx; rw [digs_small (by simpa using h)] at hx; simp at hx; simp at h; omega
  | succ k ih =>
    intro m h
    rcases Nat.lt_or_ge m 128 with hs | hs
    · intro x hx; rw [digs_small hs] at hx; simp at hx; omega
    · intro x hx
      rw [digs_big hs, List.mem_cons] at hx
      rcases hx with rfl | hx
      · omega
      · exact ih (m / 128) (by rw [Nat.div_lt_iff_lt_mul (by omega)]; rw [Nat.pow_succ] at h; exact h) x hx
theorem digs_byt10 {m : Nat} (h : m < 18446744073709551616) : Byt (digs m) := digs_byt 9 m (by omega)
theorem Byt.append {a b : List Int} (ha : Byt a) (hb : Byt b) : Byt (a ++ b) := fun x hx => by
  rcases List.mem_append.1 hx with h | h
  · exact ha x h
  · exact hb x h
theorem text_digs (s : ByteArray) (r : List Int) (most : Int) (h : (s.size : Int) ≤ most) (hm : s.size < 18446744073709551616) :
    textR (digs s.size ++ bytesOf s ++ r) most = (bytesOf s, (digs s.size).length + s.size, 0) := by
  have hg : getR (digs s.size ++ bytesOf s ++ r) 0 0 = (s.size, (digs s.size).length, 0) := by
    rw [List.append_assoc]
    exact get_digs _ hm
  have hb := bytesOf_length s
  unfold textR
  rw [hg]
  simp only
  rw [if_neg (by simp), if_neg (by omega), if_neg (by simp only [List.length_append]; omega)]
  congr 1
  rw [List.take_append_of_le_length (by simp only [List.length_append]; omega), List.take_of_length_le (by simp only [List.length_append]; omega), List.drop_left]
theorem beTo_len (m : Nat) : ∀ k, (beTo m k).length = k
  | 0 => rfl
  | k + 1 => by rw [beTo, List.length_cons, beTo_len m k]
theorem beTo_byt (m : Nat) : ∀ k, Byt (beTo m k)
  | 0 => fun x hx => by cases hx
  | k + 1 => fun x hx => by
    rw [beTo, List.mem_cons] at hx
    rcases hx with rfl | hx
    · omega
    · exact beTo_byt m k x hx
theorem beVal_cons (c : Int) (l : List Int) : beVal (c :: l) = c.toNat * 256 ^ l.length + beVal l := by
  have key : ∀ (l : List Int) (n : Nat), l.foldl (fun n c => n * 256 + c.toNat) n = n * 256 ^ l.length + l.foldl (fun n c => n * 256 + c.toNat) 0 := by
    intro l
    induction l with
    | nil => intro n; simp
    | cons d l ih =>
      intro n
      rw [List.foldl_cons, List.foldl_cons, ih, ih (0 * 256 + d.toNat), List.length_cons, Nat.pow_succ]
      rw [Nat.add_mul, Nat.zero_mul, Nat.zero_add, Nat.mul_assoc, Nat.mul_comm 256]
      omega
  unfold beVal
  rw [List.foldl_cons, key, Nat.zero_mul, Nat.zero_add]
theorem beVal_beTo (m : Nat) : ∀ k, beVal (beTo m k) = m % 256 ^ k
  | 0 => by simp [beTo, beVal, Nat.mod_one]
  | k + 1 => by
    rw [beTo, beVal_cons, beVal_beTo m k, beTo_len, Int.toNat_natCast, Nat.pow_succ, Nat.mod_mul, Nat.add_comm, Nat.mul_comm]
theorem beVal_be8 {m : Nat} (h : m < 18446744073709551616) : beVal (be8 m) = m := by
  unfold be8
  rw [beVal_beTo]
  exact Nat.mod_eq_of_lt (by omega)
end Go.Proofs.Ytepfhcimmbkilaa
/- Digests: what they compute (plain), and the functions digest.Of, digest.Mix, digest.Seal and the document's Of, each walked once. -/
namespace Go.Proofs.Ytepfhcimmbkilaa
open Go.RowKit
open Go.Proofs.YtepfhcimmbkilaaW.PrintWords

/-- One round of the digest. -/
def fnv1 (h x : Nat) : Nat := (h ^^^ x) * 1099511628211 % 18446744073709551616
def fnv (h : Nat) : List Int → Nat
  | [] => h
  | x :: xs => fnv (fnv1 h x.toNat) xs
def dOf (xs : List Int) : Nat := fnv 14695981039346656037 xs
theorem fnv1_lt (h x : Nat) : fnv1 h x < 18446744073709551616 := Nat.mod_lt _ (by omega)
theorem fnv_lt : ∀ (xs : List Int) (h : Nat), h < 18446744073709551616 → fnv h xs < 18446744073709551616
  | [], h, hh => hh
  | x :: xs, h, _ => fnv_lt xs _ (fnv1_lt h _)
theorem dOf_lt (xs : List Int) : dOf xs < 18446744073709551616 := fnv_lt xs _ (by omega)
theorem fnv_append (xs ys : List Int) : ∀ h, fnv h (xs ++ ys) = fnv (fnv h xs) ys := by
  induction xs with
  | nil => intro h; rfl
  | cons x xs ih => intro h; exact ih _

theorem xor_u64 (h x : Nat) (hh : h < 18446744073709551616) (hx : x < 18446744073709551616) : bits .xor .u64 (h : Int) (x : Int) = ((h ^^^ x : Nat) : Int) := u64_xor_nat h x hh hx
theorem mul_u64 (n : Nat) : IntKind.u64.wrap ((n : Int) * 1099511628211) = ((n * 1099511628211 % 18446744073709551616 : Nat) : Int) := by
  simp [IntKind.wrap, IntKind.bits, IntKind.signed]
theorem fnv_step (h : Nat) (x : Int) (hh : h < 18446744073709551616) (h0 : 0 ≤ x) (h1 : x ≤ 255) :
    IntKind.u64.wrap (bits .xor .u64 (h : Int) x * 1099511628211) = ((fnv1 h x.toNat : Nat) : Int) := by
  have e : x = ((x.toNat : Nat) : Int) := by omega
  rw [e, xor_u64 h x.toNat hh (by omega), mul_u64]
  rfl
theorem and255 (n : Nat) (hn : n < 18446744073709551616) : bits .and .u64 (n : Int) 255 = ((n % 256 : Nat) : Int) := by
  have h := u64_and_nat n 255 hn (by omega)
  rw [show (255 : Nat) = 2 ^ 8 - 1 from rfl, Nat.and_two_pow_sub_one_eq_mod] at h
  exact h
set_option maxRecDepth 100000 in
theorem dig_of (A : Option Addr) (xs : List Int) (c : Nat) (w : World) (hr : RdB w A xs) (hx : Byt xs) (hl : xs.length ≤ 140737488355328) :
    Calls Try.prog 43 #[.slice A xs.length c] w fun r w' => r = .returned (.int .u64 (dOf xs)) ∧ w = w' := by
  go_enter Try.func43, Try.ntmps43
  go_wp2_with fail
  go_loop [3, 8] (fun n i => ∃ (k q : Nat), k ≤ xs.length ∧ i = .int .i64 k ∧ n = .int .u64 q ∧ Hid (q < 18446744073709551616 ∧ fnv q (xs.drop k) = dOf xs)) (fun _ i => xs.length - (intOf i).toNat)
  case atStart => exact ⟨0, 14695981039346656037, by omega, rfl, rfl, ⟨by omega, rfl⟩⟩
  case round =>
    obtain ⟨k, q, hk, rfl, rfl, hrel⟩ := hrel
    rcases Nat.lt_or_ge k xs.length with hlt | hge
    · obtain ⟨bb, off, rfl, hc⟩ := RdB.at_ hr hlt
      obtain ⟨h0, h1⟩ := hx _ (rd_mem hlt)
      obtain ⟨hq, he⟩ := hrel.out
      rw [drop_rd hlt] at he
      have HE := Lib.hid he
      have hst := fnv_step q _ hq h0 h1
      clear he hq hrel hx hr
      generalize rd xs ↑k = b at *
      generalize hg : fnv1 q b.toNat = q' at *
      have HG := Lib.hid hg
      clear hg
      go_wp2_with fail
      exact ⟨⟨k + 1, q', by omega, by simp, rfl, by rw [← HG.out]; exact fnv1_lt _ _, by have := HE.out; rw [← HG.out]; exact this⟩, by simp [intOf]; omega⟩
    · obtain rfl : k = xs.length := by omega
      go_wp2_with fail
      go_ret
      obtain ⟨hq, he⟩ := hrel.out
      rw [List.drop_length] at he
      rw [← he]
      exact ⟨rfl, rfl⟩

set_option maxRecDepth 100000 in
theorem ref_of (A : Option Addr) (xs : List Int) (c : Nat) (w : World) (hr : RdB w A xs) (hx : Byt xs) (hl : xs.length ≤ 140737488355328) :
    Calls Try.prog 52 #[.slice A xs.length c] w fun r w' => r = .returned (.int .u64 (dOf xs)) ∧ w = w' := by
  go_enter Try.func52, Try.ntmps52
  go_wp2_with fail
  go_loop [3, 4] (fun n i => ∃ (k q : Nat), k ≤ xs.length ∧ i = .int .i64 k ∧ n = .int .u64 q ∧ Hid (q < 18446744073709551616 ∧ fnv q (xs.drop k) = dOf xs)) (fun _ i => xs.length - (intOf i).toNat)
  case atStart => exact ⟨0, 14695981039346656037, by omega, rfl, rfl, ⟨by omega, rfl⟩⟩
  case round =>
    obtain ⟨k, q, hk, rfl, rfl, hrel⟩ := hrel
    rcases Nat.lt_or_ge k xs.length with hlt | hge
    · obtain ⟨bb, off, rfl, hc⟩ := RdB.at_ hr hlt
      obtain ⟨h0, h1⟩ := hx _ (rd_mem hlt)
      obtain ⟨hq, he⟩ := hrel.out
      rw [drop_rd hlt] at he
      have HE := Lib.hid he
      have hst := fnv_step q _ hq h0 h1
      clear he hq hrel hx hr
      generalize rd xs ↑k = b at *
      generalize hg : fnv1 q b.toNat = q' at *
      have HG := Lib.hid hg
      clear hg
      go_wp2_with fail
      exact ⟨⟨k + 1, q', by omega, by simp, rfl, by rw [← HG.out]; exact fnv1_lt _ _, by have := HE.out; rw [← HG.out]; exact this⟩, by simp [intOf]; omega⟩
    · obtain rfl : k = xs.length := by omega
      go_wp2_with fail
      go_ret
      obtain ⟨hq, he⟩ := hrel.out
      rw [List.drop_length] at he
      rw [← he]
      exact ⟨rfl, rfl⟩

theorem mix_val (x q k : Nat) (hk : k < 8) (hq : q < 18446744073709551616) (hx : x < 18446744073709551616) :
    IntKind.u64.wrap (bits .xor .u64 (q : Int) (bits .and .u64 ((x : Int) / 2 ^ (56 - 8 * k)) 255) * 1099511628211) = ((fnv1 q (x / 256 ^ (7 - k) % 256) : Nat) : Int) := by
  have e : (x : Int) / 2 ^ (56 - 8 * k) = ((x / 256 ^ (7 - k) : Nat) : Int) := by
    have e2 : (2 : Int) ^ (56 - 8 * k) = ((256 ^ (7 - k) : Nat) : Int) := by
      rw [show 56 - 8 * k = 8 * (7 - k) from by omega, Int.pow_mul]
      simp
    rw [e2]
    rfl
  rw [e, and255 _ (Nat.lt_of_le_of_lt (Nat.div_le_self _ _) hx), xor_u64 _ _ hq (by omega), mul_u64]
  rfl
theorem mix_to (x k : Nat) (hk : k < 8) : beTo x (8 - k) = ((x / 256 ^ (7 - k) % 256 : Nat) : Int) :: beTo x (8 - (k + 1)) := by
  rw [show 8 - k = (7 - k) + 1 from by omega, show 8 - (k + 1) = 7 - k from by omega]
  rfl
theorem ixm0 (e f : Int) (w : World) : (Instr.index 96 (.agg #[.int .u64 e, .int .u64 f]) (.int .i64 0)).run Try.prog w = .ok (.int .u64 e) w := by kernel_rfl
theorem ixm1 (e f : Int) (w : World) : (Instr.index 96 (.agg #[.int .u64 e, .int .u64 f]) (.int .i64 1)).run Try.prog w = .ok (.int .u64 f) w := by kernel_rfl
set_option maxRecDepth 100000 in
theorem dig_mix (x y : Nat) (w : World) (hx : x < 18446744073709551616) (hy : y < 18446744073709551616) :
    Calls Try.prog 42 #[.int .u64 x, .int .u64 y] w fun r w' => r = .returned (.int .u64 (dOf (be8 x ++ be8 y))) ∧ w = w' := by
  go_enter Try.func42, Try.ntmps42
  go_wp2_with fail
  have i0 := ixm0 x y
  have i1 := ixm1 x y
  refine wp_loop_rounds 3 ?_
  rw [rounds_succ]
  go_wp2_with fail
  go_loop [5, 15] (fun n i => ∃ (k q : Nat), k ≤ 8 ∧ i = .int .i64 k ∧ n = .int .u64 q ∧ Hid (q < 18446744073709551616 ∧ fnv q (beTo x (8 - k) ++ be8 y) = dOf (be8 x ++ be8 y))) (fun _ i => 8 - (intOf i).toNat)
  case atStart => exact ⟨0, 14695981039346656037, by omega, rfl, rfl, ⟨by omega, rfl⟩⟩
  case round =>
    obtain ⟨k, q, hk, rfl, rfl, hrel⟩ := hrel
    rcases Nat.lt_or_ge k 8 with hlt | hge
    · go_wp2_with fail
      obtain ⟨hq, he⟩ := hrel.out
      rw [mix_to x k hlt] at he
      exact ⟨⟨k + 1, fnv1 q (x / 256 ^ (7 - k) % 256), by omega, rfl, by rw [mix_val x q k hlt hq (by assumption)], fnv1_lt _ _, by rw [← he]; rfl⟩, by simp [intOf]; omega⟩
    · obtain rfl : k = 8 := by omega
      obtain ⟨hq, he⟩ := hrel.out
      simp only [Nat.sub_self, beTo, List.nil_append] at he
      have HE := Lib.hid he
      have HQ := Lib.hid hq
      clear he hq hrel
      go_wp2_with fail
      rw [rounds_succ]
      go_wp2_with fail
      go_loop [5, 15] (fun n i => ∃ (k q : Nat), k ≤ 8 ∧ i = .int .i64 k ∧ n = .int .u64 q ∧ Hid (q < 18446744073709551616 ∧ fnv q (beTo y (8 - k)) = dOf (be8 x ++ be8 y))) (fun _ i => 8 - (intOf i).toNat)
      case atStart => exact ⟨0, q, by omega, rfl, rfl, ⟨HQ.out, HE.out⟩⟩
      case round =>
        obtain ⟨k, q, hk, rfl, rfl, hrel⟩ := hrel
        rcases Nat.lt_or_ge k 8 with hlt | hge
        · go_wp2_with fail
          obtain ⟨hq, he⟩ := hrel.out
          rw [mix_to y k hlt] at he
          exact ⟨⟨k + 1, fnv1 q (y / 256 ^ (7 - k) % 256), by omega, rfl, by rw [mix_val y q k hlt hq (by assumption)], fnv1_lt _ _, by rw [← he]; rfl⟩, by simp [intOf]; omega⟩
        · obtain rfl : k = 8 := by omega
          obtain ⟨hq, he⟩ := hrel.out
          simp only [Nat.sub_self, beTo, List.nil_append] at he
          have HEE := Lib.hid he
          clear he hq hrel HE HQ
          simp only [fnv] at HEE
          go_wp2_with fail
          rw [rounds_succ]
          go_wp2_with fail
          go_ret
          rw [HEE.out]
          exact ⟨rfl, rfl⟩
end Go.Proofs.Ytepfhcimmbkilaa
