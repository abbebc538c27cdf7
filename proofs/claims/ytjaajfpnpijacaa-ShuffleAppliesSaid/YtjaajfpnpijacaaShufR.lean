/- The numbers of orders: what Many and the two Ranks tell, and which lists are orders. -/
import Derived.Test.YtjaajfpnpijacaaInts
import Derived.Test.YtjaajfpnpijacaaShufL
import Derived.IntWalk
set_option linter.unusedVariables false
set_option linter.unusedSimpArgs false
namespace Go.Proofs.Ytjaajfpnpijacaa
open Go.RowKit
open Go.Proofs.YtjaajfpnpijacaaW.PrintWords

theorem u64_in {m : Nat} (h : m < 18446744073709551616) : IntKind.u64.wrap (m : Int) = (m : Int) := by
  simp [IntKind.wrap, IntKind.min, IntKind.max, IntKind.signed, IntKind.bits]
  omega
set_option maxHeartbeats 1000000 in
theorem ref_many (n : Nat) (hn : n ≤ 20) (w : World) :
    Calls Try.prog 13 #[.int .i64 n] w fun r w' => r = .returned (.int .u64 (facR n)) ∧ w = w' := by
  go_enter Try.func13, Try.ntmps13
  go_wp2
  go_loop [3, 4] (fun m i => ∃ k : Nat, 2 ≤ k ∧ (k ≤ n + 1 ∨ k = 2) ∧ i = .int .i64 k ∧ m = .int .u64 (facR (k - 1) : Nat)) (fun _ i => n + 2 - (intOf i).toNat)
  case atStart => exact ⟨2, by omega, .inr rfl, rfl, rfl⟩
  case round =>
    obtain ⟨k, hk2, hk, rfl, rfl⟩ := hrel
    rcases Nat.lt_or_ge n k with hlt | hge
    · go_wp2
      go_ret
      refine ⟨?_, rfl⟩
      rcases hk with hk | hk
      · have : k - 1 = n := by omega
        rw [this]; rfl
      · subst hk
        have : n = 0 ∨ n = 1 := by omega
        rcases this with rfl | rfl <;> rfl
    · have hf : facR (k - 1) * k = facR (k + 1 - 1) := by
        obtain ⟨q, rfl⟩ : ∃ q, k = q + 1 := ⟨k - 1, by omega⟩
        simp only [Nat.add_sub_cancel]
        rw [facR, Nat.mul_comm]
      have hb := facR_20 (n := k + 1 - 1) (by omega)
      have hw : IntKind.u64.wrap (((facR (k - 1) : Nat) : Int) * (k : Int)) = ((facR (k + 1 - 1) : Nat) : Int) := by
        rw [← Int.natCast_mul, hf]
        exact u64_in (by omega)
      have hc : IntKind.u64.wrap (k : Int) = (k : Int) := u64_in (by omega)
      replace hf := Lib.hid hf
      replace hb := Lib.hid hb
      go_wp2
      go_round
      case rel => exact ⟨k + 1, by omega, by omega, by go_num, rfl⟩
      case measure => simp [intOf]; omega
theorem info_int : (Try.prog.info? 3).map (fun i => (i.zero, i.size, i.bytes)) = some (some (.int .i64 0), 1, 8) := by kernel_rfl
theorem drop_cons {L : List Int} {i : Nat} (h : i < L.length) : L.drop i = ix L i :: L.drop (i + 1) := by rw [List.drop_eq_getElem_cons h, ix_eq h]
set_option maxHeartbeats 2000000 in
theorem ref_rank (A : Option Addr) (n c : Nat) (p : List Int) (w : World) (h : intK.C w A n p) (hn : n ≤ 20) :
    Calls Try.prog 12 #[.slice A n c] w fun r w' => r = .returned (.int .u64 (rankR p)) ∧ Fr (fun _ => False) w w' := by
  have HL := Lib.hid (show p.length = n from h.1)
  have HC := Lib.hid h
  have HR : Hid (rankR p < 18446744073709551616) := Lib.hid (by have h1 := rankR_lt p; have h2 := facR_20 (n := p.length) (by rw [HL.out]; exact hn); omega)
  clear h
  go_enter Try.func12, Try.ntmps12
  go_wp2
  go_loopw [3, 4] (fun a i wr => ∃ (k q : Nat), k ≤ n ∧ i = .int .i64 k ∧ a = .int .u64 q ∧ q + rankR (p.drop k) = rankR p ∧ Fr (fun _ => False) w wr) (fun _ i _ => n - (intOf i).toNat)
  case atStart => exact ⟨0, 0, by omega, rfl, rfl, by simp, Fr.refl _ _⟩
  case round =>
    obtain ⟨k, q, hk, rfl, rfl, hq, hG⟩ := hrel
    have HQ := Lib.hid hq
    have HG := Lib.hid hG
    clear hq hG
    rcases Nat.lt_or_ge k n with hlt | hge
    · have hd := drop_cons (L := p) (i := k) (by rw [HL.out]; exact hlt)
      have HD := Lib.hid hd
      clear hd
      obtain ⟨wo, hwo⟩ : ∃ wo : World, wo = wr := ⟨_, rfl⟩
      subst hwo
      go_wp2
      go_loopw [3, 5] (fun a j wi => ∃ (l q' : Nat), k + 1 ≤ l ∧ l ≤ n ∧ j = .int .i64 l ∧ a = .int .u64 q' ∧ q' + lessIn (ix p k) (p.drop l) * facR (n - 1 - k) + rankR (p.drop (k + 1)) = rankR p ∧ Fr (fun _ => False) w wi) (fun _ j _ => n - (intOf j).toNat)
      case atStart =>
        refine ⟨k + 1, q, by omega, by omega, by go_num, rfl, ?_, HG.out⟩
        have h1 := HQ.out
        rw [HD.out, rankR, List.length_drop, HL.out, show n - (k + 1) = n - 1 - k by omega] at h1
        omega
      case round =>
        obtain ⟨l, q', hl1, hl2, rfl, rfl, hq', hG'⟩ := hrel
        have HQ' := Lib.hid hq'
        have HG' := Lib.hid hG'
        clear hq' hG'
        rcases Nat.lt_or_ge l n with hlt' | hge'
        · have hd := drop_cons (L := p) (i := l) (by rw [HL.out]; exact hlt')
          have HD' := Lib.hid hd
          clear hd
          obtain ⟨b, off, rfl, hall⟩ := ints_all (Kd.C_below HC.out (HG'.out.below (fun _ _ h => h))) (by omega)
          have x0 := hall k hlt
          have x1 := hall l hlt'
          clear hall
          by_cases hx : ix p l < ix p k
          · have hx' : decide (ix p l < ix p k) = true := decide_eq_true hx
            have e1 := HQ'.out
            rw [HD'.out, lessIn_cons, if_pos hx, Nat.add_mul, Nat.one_mul] at e1
            have e2 := HR.out
            have hsum : IntKind.u64.wrap ((q' : Int) + ((facR (n - 1 - k) : Nat) : Int)) = ((q' + facR (n - 1 - k) : Nat) : Int) := by
              rw [← Int.natCast_add]
              exact u64_in (by omega)
            have i1 : IntKind.i64.wrap ((n : Int) - 1) = (n : Int) - 1 := IntWalk.i64_in _ (by omega)
            have hm : (n : Int) - 1 - (k : Int) = ((n - 1 - k : Nat) : Int) := by omega
            replace e1 := Lib.hid e1
            clear e2
            replace hx := Lib.hid hx
            go_wp2
            go_quiet (fail)
            go_wp2_with fail
            refine (ref_many (n - 1 - k) (by omega) _).mono ?_
            rintro r w2 ⟨rfl, rfl⟩
            go_wp2_with fail
            go_roundw
            case rel => exact ⟨l + 1, q' + facR (n - 1 - k), by omega, by omega, by go_num, rfl, by have := e1.out; omega, HG'.out.drewN _⟩
            case measure => simp [intOf]; omega
          · have hx' : decide (ix p l < ix p k) = false := decide_eq_false hx
            have e1 := HQ'.out
            rw [HD'.out, lessIn_cons, if_neg hx, Nat.zero_add] at e1
            replace e1 := Lib.hid e1
            replace hx := Lib.hid hx
            go_wp2
            go_quiet (fail)
            go_wp2_with fail
            go_roundw
            case rel => exact ⟨l + 1, q', by omega, by omega, by go_num, rfl, e1.out, HG'.out.drewN _⟩
            case measure => simp [intOf]; omega
        · have hl : l = n := by omega
          have e1 := HQ'.out
          rw [List.drop_eq_nil_of_le (by rw [HL.out]; omega)] at e1
          simp only [lessIn, List.filter_nil, List.length_nil, Nat.zero_mul, Nat.add_zero] at e1
          replace e1 := Lib.hid e1
          clear hl
          go_wp2
          go_roundw
          case rel => exact ⟨k + 1, q', by omega, by go_num, rfl, e1.out, HG'.out⟩
          case measure => simp [intOf]; omega
    · have e1 := HQ.out
      rw [List.drop_eq_nil_of_le (by rw [HL.out]; omega)] at e1
      simp only [rankR, Nat.add_zero] at e1
      replace e1 := Lib.hid e1
      go_wp2
      go_ret
      exact ⟨by rw [e1.out]; rfl, HG.out⟩
/-- The first k places of a list are in range, and apart. -/
def RPre (p : List Int) (k : Nat) : Prop := (∀ j, j < k → 0 ≤ ix p j ∧ ix p j < p.length) ∧ ∀ j l, j < l → l < k → ix p j ≠ ix p l
theorem rpre_right (p : List Int) : RightR p ↔ RPre p p.length := by
  rw [right_iff]
  constructor
  · rintro ⟨h1, h2⟩
    refine ⟨fun j hj => h2 _ (ix_mem hj), fun j l hj hl he => ?_⟩
    have := h1 j l (by omega) (by rw [ix_get (by omega), ix_get hl, he])
    omega
  · rintro ⟨h1, h2⟩
    refine ⟨fun i j hi he => ?_, fun x hx => ?_⟩
    · have hj : j < p.length := by
        rcases Nat.lt_or_ge j p.length with h | h
        · exact h
        · rw [ix_get hi, List.getElem?_eq_none h] at he; cases he
      rw [ix_get hi, ix_get hj] at he
      injection he with he
      rcases Nat.lt_trichotomy i j with h | h | h
      · exact absurd he (h2 i j h hj)
      · exact h
      · exact absurd he.symm (h2 j i h hi)
    · obtain ⟨i, hi, rfl⟩ := List.mem_iff_getElem.1 hx
      rw [← ix_eq hi]
      exact h1 i hi
theorem rpre_mono {p : List Int} {k l : Nat} (h : RPre p l) (hk : k ≤ l) : RPre p k := ⟨fun j hj => h.1 j (by omega), fun j i h1 h2 => h.2 j i h1 (by omega)⟩
theorem rpre_step {p : List Int} {k : Nat} (h : RPre p k) (h1 : 0 ≤ ix p k ∧ ix p k < p.length) (h2 : ∀ j, j < k → ix p j ≠ ix p k) : RPre p (k + 1) := by
  refine ⟨fun j hj => ?_, fun j l hj hl => ?_⟩
  · rcases Nat.lt_or_ge j k with h' | h'
    · exact h.1 j h'
    · rw [show j = k by omega]; exact h1
  · rcases Nat.lt_or_ge l k with h' | h'
    · exact h.2 j l hj h'
    · rw [show l = k by omega] at hj ⊢; exact h2 j hj
instance (p : List Int) : Decidable (RightR p) := inferInstanceAs (Decidable (_ ∧ _))
set_option maxHeartbeats 2000000 in
theorem shuf_rank (A : Option Addr) (n c : Nat) (p : List Int) (w : World) (h : intK.C w A n p) (hn : n ≤ 100) (hc : n ≤ c)
    (hright : Calls Try.prog 16 #[.slice A n c] w fun r w' => r = .returned (.bool (decide (RightR p))) ∧ Fr (fun _ => False) w w') :
    Calls Try.prog 10 #[.slice A n c] w fun r w' => r = .returned (.tuple #[.int .u64 (if RightR p ∧ n ≤ 20 then rankR p else 0 : Nat), .int .i64 (if RightR p then (if n ≤ 20 then 0 else 18) else 3)]) ∧ Fr (fun _ => False) w w' := by
  have HL := Lib.hid (show p.length = n from h.1)
  have HC := Lib.hid h
  by_cases hr : RightR p
  · rw [decide_eq_true hr] at hright
    rw [if_pos hr]
    rcases Nat.lt_or_ge 20 n with hbig | hsm
    · rw [if_neg (show ¬ n ≤ 20 by omega), if_neg (show ¬ (RightR p ∧ n ≤ 20) by omega)]
      have HRI := Lib.hid hright
      clear hright h hr
      go_enter Try.func10, Try.ntmps10
      go_wp2_with fail
      refine HRI.out.mono ?_
      rintro r w1 ⟨rfl, hF⟩
      go_wp2_with fail
      go_ret2
      exact ⟨rfl, hF⟩
    · rw [if_pos hsm, if_pos ⟨hr, hsm⟩]
      have HR : Hid (rankR p < 18446744073709551616) := Lib.hid (by have h1 := rankR_lt p; have h2 := facR_20 (n := p.length) (by rw [HL.out]; exact hsm); omega)
      have HRI := Lib.hid hright
      clear hright h hr
      go_enter Try.func10, Try.ntmps10
      go_wp2_with fail
      refine HRI.out.mono ?_
      rintro r w1 ⟨rfl, hF⟩
      have HF := Lib.hid hF
      clear hF
      go_wp2_with fail
      go_loopw [4, 20] (fun a i wr => ∃ (k q : Nat), k ≤ n ∧ i = .int .i64 k ∧ a = .int .u64 q ∧ horR q (p.drop k) = rankR p ∧ Fr (fun _ => False) w wr) (fun _ i _ => n - (intOf i).toNat)
      case atStart => exact ⟨0, 0, by omega, rfl, rfl, by rw [List.drop_zero, horR_eq]; omega, HF.out⟩
      case round =>
        obtain ⟨k, q, hk, rfl, rfl, hq, hG⟩ := hrel
        have HQ := Lib.hid hq
        have HG := Lib.hid hG
        clear hq hG
        rcases Nat.lt_or_ge k n with hlt | hge
        · have hd := drop_cons (L := p) (i := k) (by rw [HL.out]; exact hlt)
          have HD := Lib.hid hd
          clear hd
          obtain ⟨wo, hwo⟩ : ∃ wo : World, wo = wr := ⟨_, rfl⟩
          subst hwo
          obtain ⟨b, off, rfl, hall⟩ := ints_all (Kd.C_below HC.out (HG.out.below (fun _ _ h => h))) (by omega)
          have x0 := hall k hlt
          have HALL := Lib.hid hall
          obtain ⟨i0, hi0, hz0, hz1, hz2⟩ := info_parts info_int
          have hcut := cut_from (P := Try.prog) 24 3 .i64 Try.underlying24 hi0 1 hz1 (some ⟨b, off, none⟩) n c (k : Int) (by omega) (by omega)
          simp only [Int.toNat_natCast, if_neg (show ¬ c = k by omega), Option.map_some, add_at, Nat.mul_one] at hcut
          clear hall hi0 hz0 hz1 hz2
          go_wp2_with fail
          go_loopw [7, 29] (fun a j wi => ∃ (l q' : Nat), l ≤ n - k ∧ q' ≤ l ∧ j = .int .i64 l ∧ a = .int .i64 q' ∧ q' + lessIn (ix p k) (p.drop (k + l)) = lessIn (ix p k) (p.drop k) ∧ wo = wi) (fun _ j _ => (n - k) - (intOf j).toNat)
          case atStart => exact ⟨0, 0, by omega, by omega, rfl, rfl, by simp, rfl⟩
          case round =>
            obtain ⟨l, q', hl, hq', rfl, rfl, hless, rfl⟩ := hrel
            have HLS := Lib.hid hless
            clear hless
            rcases Nat.lt_or_ge l (n - k) with hlt' | hge'
            · have x1 := HALL.out (k + l) (by omega)
              rw [← Nat.add_assoc] at x1
              have hd := drop_cons (L := p) (i := k + l) (by rw [HL.out]; omega)
              have HD' := Lib.hid hd
              clear hd
              by_cases hx : ix p (k + l) < ix p k
              · have hx' : decide (ix p (k + l) < ix p k) = true := decide_eq_true hx
                have e1 := HLS.out
                rw [HD'.out, lessIn_cons, if_pos hx] at e1
                replace e1 := Lib.hid e1
                replace hx := Lib.hid hx
                go_wp2_with fail
                go_roundw
                case rel => exact ⟨l + 1, q' + 1, by omega, by omega, by go_num, by go_num, by rw [← Nat.add_assoc]; have := e1.out; omega, trivial⟩
                case measure => simp [intOf]; omega
              · have hx' : decide (ix p (k + l) < ix p k) = false := decide_eq_false hx
                have e1 := HLS.out
                rw [HD'.out, lessIn_cons, if_neg hx] at e1
                replace e1 := Lib.hid e1
                replace hx := Lib.hid hx
                go_wp2_with fail
                go_roundw
                case rel => exact ⟨l + 1, q', by omega, by omega, by go_num, rfl, by rw [← Nat.add_assoc]; have := e1.out; omega, trivial⟩
                case measure => simp [intOf]; omega
            · have e1 := HLS.out
              rw [List.drop_eq_nil_of_le (by rw [HL.out]; omega)] at e1
              have e2 : q' = lessIn (ix p k) (p.drop (k + 1)) := by
                rw [HD.out, lessIn_cons, if_neg (by omega)] at e1
                simpa [lessIn] using e1
              have e3 := HQ.out
              rw [HD.out, horR, List.length_drop, HL.out, show n - (k + 1) + 1 = n - k by omega, ← e2] at e3
              have e4 : q * (n - k) + q' < 18446744073709551616 := horR_bound (by rw [e3]; exact HR.out)
              have hv : IntKind.u64.wrap (IntKind.u64.wrap ((q : Int) * ((n : Int) - (k : Int))) + (q' : Int)) = ((q * (n - k) + q' : Nat) : Int) := by
                rw [show (n : Int) - (k : Int) = ((n - k : Nat) : Int) by omega, ← Int.natCast_mul, u64_in (by omega), ← Int.natCast_add]
                exact u64_in e4
              have HV := Lib.hid hv
              clear hv
              replace e3 := Lib.hid e3
              replace e2 := Lib.hid e2
              clear e1 e4
              go_wp2_with fail
              go_roundw
              case rel => exact ⟨k + 1, q * (n - k) + q', by omega, by go_num, by rw [HV.out], e3.out, HG.out⟩
              case measure => simp [intOf]; omega
        · have e1 := HQ.out
          rw [List.drop_eq_nil_of_le (by rw [HL.out]; omega), horR] at e1
          replace e1 := Lib.hid e1
          go_wp2
          go_ret2
          exact ⟨by rw [e1.out]; rfl, HG.out⟩
  · rw [decide_eq_false hr] at hright
    rw [if_neg hr, if_neg (show ¬ (RightR p ∧ n ≤ 20) from fun h => hr h.1)]
    have HRI := Lib.hid hright
    clear hright h hr
    go_enter Try.func10, Try.ntmps10
    go_wp2_with fail
    refine HRI.out.mono ?_
    rintro r w1 ⟨rfl, hF⟩
    go_wp2_with fail
    go_ret2
    exact ⟨rfl, hF⟩
end Go.Proofs.Ytjaajfpnpijacaa
