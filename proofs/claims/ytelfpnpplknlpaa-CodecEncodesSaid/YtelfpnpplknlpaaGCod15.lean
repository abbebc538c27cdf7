/- Texts of Cod, merged (15 of 27): AppR, Half, BitsP. -/
import Derived.Test.YtelfpnpplknlpaaGCod1
import Derived.Test.YtelfpnpplknlpaaGCod14
import Derived.Test.YtelfpnpplknlpaaGCod2
import Derived.Test.YtelfpnpplknlpaaGCod7
import Derived.Test.YtelfpnpplknlpaaGCod9
import Derived.Laws.FloatArith
set_option linter.unusedVariables false
set_option linter.unusedSimpArgs false
/- Appending bytes at one operation, whatever stands around it (a drawing region, a guard). -/
namespace Go.Proofs.Ytelfpnpplknlpaa
open Go.RowKit
open Go.Proofs.YtelfpnpplknlpaaW.PrintWords

set_option maxRecDepth 100000 in
theorem run_append8 {W : World} (B : Nat) (ty : TypeId) (v : Value) (xs ys : List Int) (A : Option Addr) (c : Nat)
    (HO : OwB W B v xs) (HR : RdB W A ys) (hbase : B ≤ W.heap.size) (hl : xs.length + ys.length ≤ 140737488355328) :
    ∃ v1 w1, (Builtin.append_ #[22, 22] ty #[v, .slice A ys.length c]).run Try.prog W = .ok v1 w1 ∧ OwB w1 B v1 (xs ++ ys) ∧ W.grownBy w1 v.ownBlock := by
  obtain ⟨i0, hi, hz0, hz1, hz2⟩ := info_parts info8
  have ht := Try.underlying22
  rcases A with _ | ad
  · have h0 : ys = [] := by
      rcases Nat.eq_zero_or_pos ys.length with h0 | h0
      · exact List.eq_nil_of_length_eq_zero h0
      · obtain ⟨ad, h, _⟩ := HR.2.2 h0
        cases h
    subst h0
    refine ⟨v, W, ?_, by simpa using HO, World.grownBy.refl W _⟩
    rcases HO.2 with ⟨rfl, hn⟩ | ⟨g, cap, cur, rfl, _, _, hnc, _⟩
    · simp [Builtin.append_, run_underlying ht, sizeOf, typeInfo, hi, Builtin.lenOf, Builtin.firstCells]
    · simp [Builtin.append_, run_underlying ht, sizeOf, typeInfo, hi, Builtin.lenOf, Builtin.firstCells, hnc, storeCells]
  · have hcells : ∀ j u, (nums .u8 ys)[j]? = some u → W.cell? (ad.add j) = some u := by
      intro j u hu
      have hj : j < ys.length := by
        rcases Nat.lt_or_ge j ys.length with h | h
        · exact h
        · simp [nums, List.getElem?_eq_none h] at hu
      obtain ⟨ad', h', hc⟩ := HR.2.2 (by omega)
      injection h' with h'
      subst h'
      have := hc j (by omega)
      simp [nums, List.getElem?_eq_getElem hj] at hu
      subst hu
      rw [this]
      simp [List.getD_eq_getElem?_getD, List.getElem?_eq_getElem hj]
    obtain ⟨v1, w1, hr, h2, h3, _, _⟩ := run_append_own_at (P := Try.prog) W B 22 ty 5 i0 (.int .u8 0) 1 1 ht hi hz0 hz1 hz2 rfl (by omega) v xs.length (nums .u8 xs) HO ad ys.length c (nums .u8 ys) (by simp [nums]) hcells
      (by intro u hu; simp only [nums, List.mem_map] at hu; obtain ⟨q, _, rfl⟩ := hu; rfl) (by simp only [maxLen]; omega) (by omega) hbase
    exact ⟨v1, w1, hr, by simpa [OwB, nums] using h2, h3⟩

theorem wp_append8 {W : World} {o : Oper} {a : Act} {K : Act → World → Prop} {Q : Exit → Act → World → Prop} {E : Prop} {ops : Array Oper} (B : Nat) (hw : Region.wanted o (yielded ops a.tmps) = true) (s x : Operand)
    (ho : o.op = .call { callee := .builtin .append, args := #[s, x], argTypes := #[22, 22] })
    (v : Value) (xs ys : List Int) (A : Option Addr) (c : Nat) (hs : a.eval s = v) (hx : a.eval x = .slice A ys.length c)
    (HO : OwB W B v xs) (HR : RdB W A ys) (hbase : B ≤ W.heap.size) (hl : xs.length + ys.length ≤ 140737488355328)
    (h : ∀ v1 w1, OwB w1 B v1 (xs ++ ys) → Fr (fun k => some k = v.ownBlock) W w1 → K (a.put o.dst v1) w1) :
    if Region.wanted o (yielded ops a.tmps) = true then Oper.wp Try.prog o a W K Q else E := by
  obtain ⟨v1, w1, hr, hown, hg⟩ := run_append8 B o.type v xs ys A c HO HR hbase hl
  rw [if_pos hw]
  unfold Oper.wp execOp
  simp only [ho, resolve, invoke, builtin, Sem.run_bind, Sem.run_pure, Result.andThen_ok, List.map_toArray, List.map_cons, List.map_nil, hs, hx, hr]
  exact h v1 w1 hown (Fr.of_grown hg)
end Go.Proofs.Ytelfpnpplknlpaa
/- Doubles, plain: twice, half, and the whole number that one is. No program in sight. -/
namespace Go.Proofs.Ytelfpnpplknlpaa
open Ieee

theorem read_norm (x : Nat) (h1 : 4503599627370496 ≤ rung x) (h : rung x < 9218868437227405312) : double.read x = .number (negW x) (4503599627370496 + rung x % 4503599627370496) (-1074 + ((rung x / 4503599627370496 - 1 : Nat) : Int)) := by
  have e1 : double.signWeight = 9223372036854775808 := by decide +kernel
  have e2 : double.binade = 4503599627370496 := by decide +kernel
  have e3 : double.infRung = 9218868437227405312 := by decide +kernel
  have e4 : double.leastPlace = -1074 := by decide +kernel
  unfold Format.read
  rw [e1, e2, e3, e4]
  simp only
  change x % 9223372036854775808 < _ at h
  change _ ≤ x % 9223372036854775808 at h1
  rw [if_neg (by omega), if_pos h]; rfl
theorem read_low (x : Nat) (h1 : rung x < 4503599627370496) : double.read x = .number (negW x) (rung x) (-1074) := by
  have e1 : double.signWeight = 9223372036854775808 := by decide +kernel
  have e2 : double.binade = 4503599627370496 := by decide +kernel
  have e4 : double.leastPlace = -1074 := by decide +kernel
  unfold Format.read
  rw [e1, e2, e4]
  simp only
  change x % 9223372036854775808 < _ at h1
  rw [if_pos h1]; rfl
theorem word_self (x : Nat) (hx : x < 18446744073709551616) (d : Nat) (r : Nat) (hr : r = rung x + d) : double.word (negW x) r = x + d := by
  have e1 : double.signWeight = 9223372036854775808 := by decide +kernel
  unfold Format.word
  rw [e1]
  unfold negW
  unfold rung at hr
  by_cases h : x / 9223372036854775808 % 2 = 1
  · rw [if_pos (by rw [h]; rfl)]; omega
  · rw [if_neg (by simpa using h)]; omega
theorem word_less (x : Nat) (hx : x < 18446744073709551616) (d : Nat) (hd : d ≤ rung x) (r : Nat) (hr : r = rung x - d) : double.word (negW x) r = x - d := by
  have e1 : double.signWeight = 9223372036854775808 := by decide +kernel
  unfold Format.word
  rw [e1]
  unfold negW
  unfold rung at hr hd
  by_cases h : x / 9223372036854775808 % 2 = 1
  · rw [if_pos (by rw [h]; rfl)]; omega
  · rw [if_neg (by simpa using h)]; omega
/-- What is cut exactly. -/
theorem cut_exact (way : Toward) (hw : way = .even ∨ way = .zero) (s : Bool) (n d : Nat) : way.cut s (n * 2 ^ d) d = n := by
  unfold Toward.cut
  have hg : ∃ g, g ≤ d ∧ (n = 0 ∨ g = d) ∧ min d ((n * 2 ^ d).log2 + 2) = g := by
    rcases Nat.eq_zero_or_pos n with h | h
    · exact ⟨_, Nat.min_le_left _ _, .inl h, rfl⟩
    · have hp : 0 < n * 2 ^ d := Nat.mul_pos h (Nat.two_pow_pos d)
      have h1 : d ≤ (n * 2 ^ d).log2 := (Nat.le_log2 (by omega)).2 (Nat.le_mul_of_pos_left _ h)
      exact ⟨d, Nat.le_refl _, .inr rfl, by omega⟩
  obtain ⟨g, hgd, hor, he⟩ := hg
  have hpos : 0 < 2 ^ g := Nat.two_pow_pos g
  simp only [he, Nat.shiftLeft_eq, Nat.one_mul]
  have h1 : n * 2 ^ d / 2 ^ g = n := by
    rcases hor with h | h
    · subst h; simp
    · subst h; exact Nat.mul_div_cancel _ hpos
  have h2 : n * 2 ^ d % 2 ^ g = 0 := by
    rcases hor with h | h
    · subst h; simp
    · subst h; exact Nat.mul_mod_left _ _
  rw [h1, h2]
  rcases hw with rfl | rfl
  · have : ¬ 2 ^ g < 2 * 0 := by omega
    have h3 : (2 ^ g == 2 * 0) = false := by
      rw [beq_eq_false_iff_ne]; omega
    simp [h3]
  · simp
/-- A number whose digits all fit is written as it is. -/
theorem nearest_exact (s : Bool) (mag : Nat) (p last : Int) (k t : Nat) (hm : mag ≠ 0) (ht : mag.log2 = t) (hl : last = max (p + t - 52) (-1074)) (hk : mag <<< (p - last).toNat = k * 2 ^ (last - p).toNat) (hs : (last + 1074).toNat * 4503599627370496 + k < 9218868437227405312) :
    double.nearest s mag p = double.word s ((last + 1074).toNat * 4503599627370496 + k) := by
  have e2 : double.binade = 4503599627370496 := by decide +kernel
  have e3 : double.infRung = 9218868437227405312 := by decide +kernel
  have e4 : double.leastPlace = -1074 := by decide +kernel
  have e5 : double.fractionBits = 52 := by decide +kernel
  unfold Format.nearest
  rw [if_neg hm, e2, e3, e4, e5, ht]
  simp only
  rw [show max (p + (t : Int) - ((52 : Nat) : Int)) (-1074) = last from by rw [hl]; rfl]
  rw [hk, cut_exact .even (.inl rfl), show last - -1074 = last + 1074 from by omega, Nat.min_eq_left (by omega)]
theorem log2_of {n k : Nat} (h1 : 2 ^ k ≤ n) (h2 : n < 2 ^ (k + 1)) : n.log2 = k := by
  have : n ≠ 0 := by have := Nat.two_pow_pos k; omega
  exact (Nat.log2_eq_iff this).2 ⟨h1, h2⟩
theorem two_read : double.read 4611686018427387904 = .number false 4503599627370496 (-51) := by decide +kernel
/-- Twice. -/
theorem mul2 (x : Nat) (hx : x < 18446744073709551616) (h0 : 0 < rung x) (h : rung x < 9214364837600034816) :
    double.mul 4611686018427387904 x = some (if rung x < 4503599627370496 then x + rung x else x + 4503599627370496) := by
  unfold Format.mul
  rw [two_read]
  rcases Nat.lt_or_ge (rung x) 4503599627370496 with h1 | h1
  · rw [read_low x h1, if_pos h1]
    simp only [Datum.product, Option.map_some, Bool.false_xor]
    show some (double.nearest _ _ _) = _
    obtain ⟨t, ht⟩ : ∃ t, t = (rung x).log2 := ⟨_, rfl⟩
    have hlt : t ≤ 51 := by
      have : (rung x).log2 < 52 := (Nat.log2_lt (by omega)).2 h1
      omega
    have hle : 2 ^ t ≤ rung x := by rw [ht]; exact Nat.log2_self_le (by omega)
    have hlt2 : rung x < 2 ^ (t + 1) := by rw [ht]; exact Nat.lt_log2_self
    have hlog : (4503599627370496 * rung x).log2 = 52 + t := by
      refine log2_of ?_ ?_
      · rw [Nat.pow_add]; exact Nat.mul_le_mul_left _ hle
      · rw [show 52 + t + 1 = 52 + (t + 1) from by omega, Nat.pow_add]
        exact Nat.mul_lt_mul_of_pos_left hlt2 (by decide)
    rw [nearest_exact (negW x) (4503599627370496 * rung x) (-51 + -1074) (-1074) (2 * rung x) (52 + t) (by omega) hlog (by push_cast; omega) (by
      show (4503599627370496 * rung x) <<< 0 = 2 * rung x * 2 ^ 51
      rw [Nat.shiftLeft_zero]
      have : (2 : Nat) ^ 51 = 2251799813685248 := by decide
      omega) (by show 0 * 4503599627370496 + 2 * rung x < _; omega)]
    rw [word_self x hx (rung x) _ (by show 0 * 4503599627370496 + 2 * rung x = _; omega)]
  · rw [read_norm x h1 (by omega), if_neg (by omega)]
    simp only [Datum.product, Option.map_some, Bool.false_xor]
    show some (double.nearest _ _ _) = _
    obtain ⟨q, hq⟩ : ∃ q, q = rung x / 4503599627370496 := ⟨_, rfl⟩
    obtain ⟨m, hm⟩ : ∃ m, m = 4503599627370496 + rung x % 4503599627370496 := ⟨_, rfl⟩
    have hq1 : 1 ≤ q := by rw [hq]; omega
    have hm1 : 4503599627370496 ≤ m := by omega
    have hm2 : m < 9007199254740992 := by omega
    rw [← hq, ← hm]
    have hlog : (4503599627370496 * m).log2 = 104 := by
      refine log2_of ?_ ?_
      · rw [show (2 : Nat) ^ 104 = 4503599627370496 * 4503599627370496 from by decide]; exact Nat.mul_le_mul_left _ hm1
      · rw [show (2 : Nat) ^ (104 + 1) = 4503599627370496 * 9007199254740992 from by decide]; exact Nat.mul_lt_mul_of_pos_left hm2 (by decide)
    obtain ⟨p, hp⟩ : ∃ p : Int, p = -51 + (-1074 + ((q - 1 : Nat) : Int)) := ⟨_, rfl⟩
    rw [← hp]
    have hl1 : (p + 52 + 1074).toNat = q := by omega
    rw [nearest_exact (negW x) (4503599627370496 * m) p (p + 52) m 104 (by omega) hlog (by push_cast; omega) (by
      rw [show (p - (p + 52)).toNat = 0 from by omega, show (p + 52 - p).toNat = 52 from by omega, Nat.shiftLeft_zero, show (2 : Nat) ^ 52 = 4503599627370496 from by decide, Nat.mul_comm]) (by rw [hl1]; omega)]
    rw [word_self x hx 4503599627370496 _ (by rw [hl1]; omega)]
/-- Half. -/
theorem div2 (x : Nat) (hx : x < 18446744073709551616) (h1 : 9007199254740992 ≤ rung x) (h : rung x < 9218868437227405312) :
    double.div x 4611686018427387904 = some (x - 4503599627370496) := by
  unfold Format.div
  have e5 : double.fractionBits = 52 := by decide +kernel
  rw [two_read, read_norm x (by omega) h, e5]
  obtain ⟨q, hq⟩ : ∃ q, q = rung x / 4503599627370496 := ⟨_, rfl⟩
  obtain ⟨m, hm⟩ : ∃ m, m = 4503599627370496 + rung x % 4503599627370496 := ⟨_, rfl⟩
  have hq1 : 2 ≤ q := by rw [hq]; omega
  have hm1 : 4503599627370496 ≤ m := by omega
  have hm2 : m < 9007199254740992 := by omega
  rw [← hq, ← hm]
  have hlm : m.log2 = 52 := log2_of (by rw [show (2 : Nat) ^ 52 = 4503599627370496 from by decide]; exact hm1) (by rw [show (2 : Nat) ^ (52 + 1) = 9007199254740992 from by decide]; exact hm2)
  have hl2 : (4503599627370496 : Nat).log2 = 52 := log2_of (by decide) (by decide)
  simp only [Datum.quotient, Option.map_some, Bool.xor_false, hlm, hl2]
  rw [if_neg (by decide)]
  simp only [Option.map_some, Nat.shiftLeft_eq]
  have hd : m * 2 ^ (52 + 2 + 52 - 52) / 4503599627370496 = 4 * m := by
    rw [show (2 : Nat) ^ (52 + 2 + 52 - 52) = 4 * 4503599627370496 from by decide, ← Nat.mul_assoc, Nat.mul_div_cancel _ (by decide), Nat.mul_comm]
  have hr : m * 2 ^ (52 + 2 + 52 - 52) % 4503599627370496 = 0 := by
    rw [show (2 : Nat) ^ (52 + 2 + 52 - 52) = 4 * 4503599627370496 from by decide, ← Nat.mul_assoc, Nat.mul_mod_left]
  rw [hd, hr]
  show some (double.nearest _ _ _) = _
  obtain ⟨p, hp⟩ : ∃ p : Int, p = -1074 + ((q - 1 : Nat) : Int) - -51 - ((52 + 2 + 52 - 52 : Nat) : Int) - 1 := ⟨_, rfl⟩
  have hpp : p = (q : Int) - 1079 := by omega
  rw [← hp]
  have hmag : 2 * (4 * m) + ((0 : Nat) != 0).toNat = 8 * m := by
    have : ((0 : Nat) != 0).toNat = 0 := rfl
    omega
  rw [hmag]
  have hlog : (8 * m).log2 = 55 := log2_of (by rw [show (2 : Nat) ^ 55 = 8 * 4503599627370496 from by decide]; omega) (by rw [show (2 : Nat) ^ (55 + 1) = 8 * 9007199254740992 from by decide]; omega)
  rw [nearest_exact (negW x) (8 * m) p (p + 3) m 55 (by omega) hlog (by push_cast; omega) (by
    rw [show (p - (p + 3)).toNat = 0 from by omega, show (p + 3 - p).toNat = 3 from by omega, Nat.shiftLeft_zero, show (2 : Nat) ^ 3 = 8 from by decide, Nat.mul_comm]) (by rw [show (p + 3 + 1074).toNat = q - 2 from by omega]; omega)]
  rw [word_less x hx 4503599627370496 (by omega) _ (by rw [show (p + 3 + 1074).toNat = q - 2 from by omega]; omega)]
end Go.Proofs.Ytelfpnpplknlpaa
/- A double's bits by doubling and halving: plainly. No program in sight. -/
namespace Go.Proofs.Ytelfpnpplknlpaa
open Ieee

def k74 : Nat := 1074
theorem k74_is : k74 = 1074 := rfl
theorem toInt_exact (x n : Nat) (h : rung x < 9218868437227405312) (hs : scale (rung x) = n * 2 ^ k74) : (double.read x).toInt .zero = some (if negW x then -(n : Int) else n) := by
  obtain ⟨m, a, he, hm⟩ := read_num x h
  rw [he]
  rw [hs] at hm
  have hk := k74_is
  generalize k74 = k at hk hm
  have key : Toward.zero.cut (negW x) (m <<< ((-1074 : Int) + a).toNat) (-((-1074 : Int) + a)).toNat = n := by
    rcases Nat.le_total a k with ha | ha
    · rw [show ((-1074 : Int) + a).toNat = 0 from by omega, show (-((-1074 : Int) + a)).toNat = k - a from by omega, Nat.shiftLeft_zero]
      have : m = n * 2 ^ (k - a) := by
        have h1 : m * 2 ^ a = n * 2 ^ (k - a) * 2 ^ a := by rw [hm, Nat.mul_assoc, ← Nat.pow_add, Nat.sub_add_cancel ha]
        exact Nat.eq_of_mul_eq_mul_right (Nat.two_pow_pos a) h1
      rw [this]
      exact cut_exact .zero (.inr rfl) _ _ _
    · rw [show ((-1074 : Int) + a).toNat = a - k from by omega, show (-((-1074 : Int) + a)).toNat = 0 from by omega, Nat.shiftLeft_eq]
      have : m * 2 ^ (a - k) = n := by
        have h1 : m * 2 ^ (a - k) * 2 ^ k = n * 2 ^ k := by rw [Nat.mul_assoc, ← Nat.pow_add, Nat.sub_add_cancel ha, hm]
        exact Nat.eq_of_mul_eq_mul_right (Nat.two_pow_pos k) h1
      rw [this]
      have := cut_exact .zero (.inr rfl) (negW x) n 0
      rwa [Nat.pow_zero, Nat.mul_one] at this
  simp only [Datum.toInt, Datum.integral, key, signed, Nat.shiftLeft_zero]
theorem scale_dbl {z : Nat} : scale (if z < 4503599627370496 then 2 * z else z + 4503599627370496) = 2 * scale z := by
  rcases Nat.lt_or_ge z 4503599627370496 with h | h
  · rw [if_pos h]
    unfold scale
    rw [if_pos h]
    rcases Nat.lt_or_ge (2 * z) 4503599627370496 with h2 | h2
    · rw [if_pos h2]
    · rw [if_neg (by omega), show 2 * z / 4503599627370496 - 1 = 0 from by omega, Nat.pow_zero, Nat.mul_one]
      omega
  · rw [if_neg (by omega)]
    unfold scale
    rw [if_neg (by omega), if_neg (by omega), show (z + 4503599627370496) % 4503599627370496 = z % 4503599627370496 from by omega, show (z + 4503599627370496) / 4503599627370496 - 1 = (z / 4503599627370496 - 1) + 1 from by omega, Nat.pow_succ, ← Nat.mul_assoc, Nat.mul_comm _ 2]
theorem scale_le {a b : Nat} (h : a ≤ b) : scale a ≤ scale b := by
  rcases Nat.eq_or_lt_of_le h with h | h
  · rw [h]; exact Nat.le_refl _
  · exact Nat.le_of_lt (scale_mono h)
theorem scale_c2 : scale 4841369599423283200 = 4503599627370496 * 2 ^ k74 := by
  unfold scale
  rw [if_neg (by omega), show 4841369599423283200 / 4503599627370496 - 1 = k74 from by rw [k74_is]]
/-- Behind i doublings of y. -/
structure Dbl (y i z : Nat) : Prop where
  sc : scale z = scale y * 2 ^ i
  norm : 4503599627370496 ≤ y → z = y + i * 4503599627370496
theorem Dbl.zero (y : Nat) : Dbl y 0 y := ⟨by rw [Nat.pow_zero, Nat.mul_one], fun _ => by omega⟩
theorem Dbl.succ {y i z : Nat} (h : Dbl y i z) : Dbl y (i + 1) (if z < 4503599627370496 then 2 * z else z + 4503599627370496) :=
  ⟨by rw [scale_dbl, h.sc, Nat.pow_succ, Nat.mul_comm, Nat.mul_assoc], fun hy => by have := h.norm hy; rw [if_neg (by omega), this]; omega⟩
theorem Dbl.pos {y i z : Nat} (h : Dbl y i z) (hy : 0 < y) : 0 < z := by
  rcases Nat.eq_zero_or_pos z with hz | hz
  · have h1 := h.sc
    rw [hz, scale_zero] at h1
    have h2 : scale 0 < scale y := scale_mono hy
    rw [scale_zero] at h2
    have := Nat.mul_pos h2 (Nat.two_pow_pos i)
    omega
  · exact hz
/-- A subnormal one stays below 2^52 as long as there are places. -/
theorem Dbl.low {y i z : Nat} (h : Dbl y i z) (hy : y < 4503599627370496) (hi : i ≤ 1074) : z < 4841369599423283200 := by
  rcases Nat.lt_or_ge z 4841369599423283200 with hz | hz
  · exact hz
  · have h1 := scale_le hz
    rw [scale_c2, h.sc] at h1
    have h2 : scale y = y := by unfold scale; rw [if_pos hy]
    rw [h2] at h1
    have h3 : y * 2 ^ i < 4503599627370496 * 2 ^ k74 := Nat.lt_of_lt_of_le (Nat.mul_lt_mul_of_pos_right hy (Nat.two_pow_pos i)) (Nat.mul_le_mul_left _ (Nat.pow_le_pow_right (by decide) (by rw [k74_is]; exact hi)))
    omega
theorem rank_pos {y : Nat} (h : y < 9223372036854775808) : rank y = y := by
  unfold rank negW rung
  rw [show y / 9223372036854775808 = 0 from by omega]
  simp
  omega
theorem rung_pos {y : Nat} (h : y < 9223372036854775808) : rung y = y := Nat.mod_eq_of_lt h
theorem nan_pos {y : Nat} (h : y ≤ 9218868437227405312) : ¬ nanW y := by unfold nanW; rw [rung_pos (by omega)]; omega
theorem neg_pos {y : Nat} (h : y < 9223372036854775808) : negW y = false := by unfold negW; rw [show y / 9223372036854775808 = 0 from by omega]; rfl
/-- What is left when the doublings end at a whole number between 2^52 and 2^53. -/
theorem whole_hi {z : Nat} (h1 : 4841369599423283200 ≤ z) (h2 : z < 4845873199050653696) : (double.read z).toInt .zero = some ((4503599627370496 + z % 4503599627370496 : Nat) : Int) := by
  rw [toInt_exact z (4503599627370496 + z % 4503599627370496) (by rw [rung_pos (by omega)]; omega) (by
    rw [rung_pos (by omega)]
    unfold scale
    rw [if_neg (by omega), show z / 4503599627370496 - 1 = k74 from by rw [k74_is]; omega]), neg_pos (by omega)]
  rfl
theorem whole_lo {y z : Nat} (h : Dbl y k74 z) (hy : y < 4503599627370496) : (double.read z).toInt .zero = some (y : Int) := by
  have hz := h.low hy (by rw [k74_is]; exact Nat.le_refl _)
  rw [toInt_exact z y (by rw [rung_pos (by omega)]; omega) (by
    rw [rung_pos (by omega), h.sc]
    have h2 : scale y = y := by unfold scale; rw [if_pos hy]
    rw [h2]), neg_pos (by omega)]
  rfl
end Go.Proofs.Ytelfpnpplknlpaa
