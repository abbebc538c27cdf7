/- The laws of layer 9 (wire), walked. -/
import Derived.Test.YtlpigldogglmcaaWireR
import Derived.Deep.RegionWith
set_option linter.unusedVariables false
set_option linter.unusedSimpArgs false
namespace Go.Proofs.Ytlpigldogglmcaa
open Go.RowKit
open Go.Proofs.YtlpigldogglmcaaW.PrintWords

theorem rd_lit (w : World) (xs : List Int) (hm : xs.length ≤ 9223372036854775807) : RdB (w.alloc (.cells (nums .u8 xs).toArray 5)) (some ⟨w.heap.size, 0, none⟩) xs :=
  own_reads' (own_lit w w.heap.size 5 .u8 xs (Nat.le_refl _) hm)

theorem str3 : strOfNums [7, 172, 2] = ⟨#[7, 172, 2]⟩ := by decide +kernel
theorem str2 : strOfNums [2, 97, 98] = ⟨#[2, 97, 98]⟩ := by decide +kernel
theorem dig300 : digs 300 = [172, 2] := by simp [digs]
theorem dig2 : digs 2 = [2] := by simp [digs]
theorem ab : bytesOf ⟨#[97, 98]⟩ = [97, 98] := by decide +kernel
theorem get300 : getR [172, 2] 0 0 = (300, 2, 0) := by decide +kernel

set_option maxRecDepth 100000 in
set_option maxHeartbeats 1000000 in
theorem works09 (w : World) : Calls Try.prog 39 #[] w fun r w' => r = .returned (.bool true) ∧ Fr (fun _ => False) w w' := by
  have hr0 : RdB (w.alloc (.cells #[.int .u8 7] 5)) (some ⟨w.heap.size, 0, none⟩) [7] := rd_lit w [7] (by simp)
  have F0 : Fr (fun _ => False) w (w.alloc (.cells #[.int .u8 7] 5)) := (Fr.refl _ _).alloc _
  go_enter Try.func39, Try.ntmps39
  go_wp2_with fail
  generalize w.alloc (.cells #[.int .u8 7] 5) = w0 at hr0 F0 ⊢
  refine (wire_put (some ⟨w.heap.size, 0, none⟩) [7] 1 300 w0 (by simp) hr0 (by simp) (by omega)).mono ?_
  rintro r w1 ⟨v, rfl, hown, F1⟩
  rw [dig300] at hown
  obtain ⟨A1, c1, rfl, hr1⟩ := hown.reads
  have hc1 : 3 ≤ c1 := by
    have := hown.2
    rcases this with ⟨h, _⟩ | ⟨g, cap, cur, h, _, _, h2, _⟩
    · cases h
    · injection h with _ _ h3
      rw [h3]
      exact h2
  replace F1 := F0.trans F1
  clear F0 hr0
  obtain ⟨A2, ys, hcut, hys⟩ := cut_from8 A1 c1 ([7] ++ [172, 2]) 1 (by simp) (by simpa using hc1)
  obtain ⟨hy1, hy2, hy3⟩ := hys.out
  have hr2 := hy3 _ hr1
  replace hy1 : ys = [172, 2] := hy1
  subst hy1
  replace hcut : ∀ W : World, (Instr.slice 39 (.slice A1 3 c1) (some (.int .i64 1)) none none).run Try.prog W = .ok (.slice A2 2 (c1 - 1)) W := hcut
  have hcv : (convert 39 9 (.slice A1 3 c1)).run Try.prog w1 = .ok (.string ⟨#[7, 172, 2]⟩) w1 := by
    have := conv_str8 (c := c1) hr1
    rw [← str3]
    exact this
  clear hys hy2 hy3 hown
  go_wp2_with fail
  have HG := wire_get A2 [172, 2] (c1 - 1) w1 hr2 (by intro x hx; simp at hx; omega) (by simp)
  rw [get300] at HG
  refine HG.mono ?_
  rintro r w2 ⟨rfl, rfl⟩
  clear HG hcut hr2
  go_wp2_with fail
  refine (wire_putText none [] 0 ⟨#[97, 98]⟩ w1 (by simp) (RdB.nil _) (by simp [ByteArray.size])).mono ?_
  rintro r w2 ⟨v, rfl, hown, F2⟩
  rw [show ByteArray.size ⟨#[97, 98]⟩ = 2 from rfl, dig2, ab] at hown
  obtain ⟨A3, c3, rfl, hr3⟩ := hown.reads
  have hcv2 : (convert 39 9 (.slice A3 3 c3)).run Try.prog w2 = .ok (.string ⟨#[2, 97, 98]⟩) w2 := by
    have := conv_str8 (c := c3) hr3
    rw [← str2]
    exact this
  replace F2 := F1.trans F2
  clear F1 hown hcv hr1
  go_wp2_with fail
  go_ret
  exact ⟨rfl, F2⟩

set_option maxRecDepth 100000 in
set_option maxHeartbeats 1000000 in
theorem lawGets_long (A : Option Addr) (n c : Nat) (most : Int) (w : World) (hl : 1000 < n) (hm : n ≤ 9223372036854775807) :
    Calls Try.prog 7 #[.slice A n c, .int .u8 most] w fun r w' => r = .returned (.bool true) ∧ Fr (fun _ => False) w w' := by
  go_enter Try.func7, Try.ntmps7
  go_wp2_with fail
  refine (works09 _).mono ?_
  rintro r w4 ⟨rfl, F4⟩
  go_wp2_with fail
  go_ret
  exact ⟨rfl, F4⟩

theorem beTo_snd (m k : Nat) (b : Int) (h0 : 0 ≤ b) (h1 : b ≤ 255) : beTo (m * 256 + b.toNat) (k + 1) = beTo m k ++ [b] := by
  induction k with
  | zero =>
    simp only [beTo, Nat.pow_zero, Nat.div_one, List.nil_append]
    congr 1
    omega
  | succ k ih =>
    rw [beTo, ih, beTo]
    simp only [List.cons_append]
    congr 1
    have : (m * 256 + b.toNat) / 256 ^ (k + 1) = m / 256 ^ k := by
      rw [Nat.pow_succ, Nat.mul_comm (256 ^ k) 256, ← Nat.div_div_eq_div_mul]
      congr 1
      omega
    rw [this]
theorem beTo_val : ∀ (k : Nat) (l : List Int), l.length = k → (∀ x ∈ l, 0 ≤ x ∧ x ≤ 255) → beTo (beVal l) k = l
  | 0, [], _, _ => rfl
  | k + 1, l, hl, hb => by
    have hne : l ≠ [] := by rintro rfl; simp at hl
    obtain ⟨p, b, rfl⟩ : ∃ p b, l = p ++ [b] := ⟨l.dropLast, l.getLast hne, (List.dropLast_concat_getLast hne).symm⟩
    have hb' := hb b (by simp)
    rw [beVal_snoc, beTo_snd _ _ _ hb'.1 hb'.2, beTo_val k p (by simp at hl; exact hl) (fun x hx => hb x (by simp [hx]))]
theorem be8_val {l : List Int} (hl : l.length = 8) (hb : ∀ x ∈ l, 0 ≤ x ∧ x ≤ 255) : be8 (beVal l) = l := beTo_val 8 l hl hb

set_option maxRecDepth 100000 in
set_option maxHeartbeats 4000000 in
theorem lawGets (A : Option Addr) (xs : List Int) (c : Nat) (most : Int) (w : World) (hl : xs.length ≤ 1000) (hc : xs.length ≤ c) (hr : RdB w A xs) (hx : Byt xs) (hm0 : 0 ≤ most) (hm1 : most ≤ 255) :
    Calls Try.prog 7 #[.slice A xs.length c, .int .u8 most] w fun r w' => r = .returned (.bool true) ∧ Fr (fun _ => False) w w' := by
  have hb1 : ([] : List Int).length + xs.length ≤ 140737488355328 := by simp; omega
  have HHR := Lib.hid hr
  have HX := Lib.hid hx
  have hr0 : RdB (w.alloc (.cells #[] 5)) A xs := hr.fr ((Fr.refl (fun _ => False) _).alloc _) (fun _ _ h => h)
  have F0 : Fr (fun _ => False) w (w.alloc (.cells #[] 5)) := (Fr.refl _ _).alloc _
  have ho0 := ow_lit0 w
  have hs0 : w.heap.size ≤ (w.alloc (.cells #[] 5)).heap.size := F0.size
  clear hr hx
  go_enter Try.func7, Try.ntmps7
  go_wp2_with (at_builtin; go_must (refine append8_row w.heap.size rfl _ _ rfl (.slice (some ⟨w.heap.size, 0, none⟩) 0 0) [] xs A c rfl rfl ho0 hr0 hs0 hb1 ?_); intro v1 w1 hown hF)
  simp only [List.nil_append] at hown
  have F1 : Fr (fun _ => False) w w1 := F0.trans' hF (fun i hi hk => by have := hk.1; omega)
  clear F0 hF ho0 hr0 hs0
  obtain ⟨A1, c1, rfl, hr1⟩ := hown.reads
  have hs1 := F1.size
  have hc1 : xs.length ≤ c1 := hown.cap
  clear hown
  have HL := Lib.hid (getR_lt xs 0 0 (by omega) (by simp) HX.out)
  have HE := Lib.hid (getR_err xs 0 0)
  have HO := fun m k h => Lib.hid (getR_ok xs 0 0 m k h)
  have HG : ∀ A c w, RdB w A xs → Hid (Calls Try.prog 40 #[.slice A xs.length c] w fun r w' => r = .returned (.tuple #[.int .u64 (getR xs 0 0).1, .int .i64 (getR xs 0 0).2.1, .int .i64 (getR xs 0 0).2.2]) ∧ w = w') := fun A c w hr => wire_get A xs c w hr HX.out (by omega)
  have HR : ∀ A c w, RdB w A xs → Hid (Calls Try.prog 41 #[.slice A xs.length c] w fun r w' => r = .returned (.tuple #[.int .u64 (getR xs 0 0).1, .int .i64 (getR xs 0 0).2.1, .int .i64 (getR xs 0 0).2.2]) ∧ w = w') := fun A c w hr => ref_read A xs c w hr HX.out (by omega)
  have HT : Hid (textR xs most = if (getR xs 0 0).2.2 ≠ 0 then ([], 0, (getR xs 0 0).2.2)
    else if most < 0 ∨ most < (getR xs 0 0).1 then ([], 0, 18)
    else if xs.length - (getR xs 0 0).2.1 < (getR xs 0 0).1 then ([], 0, 4)
    else ((xs.take ((getR xs 0 0).2.1 + (getR xs 0 0).1)).drop (getR xs 0 0).2.1, (getR xs 0 0).2.1 + (getR xs 0 0).1, 0)) := rfl
  have HTT : ∀ A c w, RdB w A xs → xs.length ≤ c → Hid (Calls Try.prog 42 #[.slice A xs.length c, .int .i64 most] w fun r w' => r = .returned (.tuple #[.string (strOfNums (textR xs most).1), .int .i64 (textR xs most).2.1, .int .i64 (textR xs most).2.2]) ∧ w = w') :=
    fun A c w hr hc => wire_getText A xs c most w hr HX.out (by omega) hc (by omega) (by omega)
  generalize textR xs most = T at HT HTT
  generalize hg : getR xs 0 0 = g at HL HE HO HG HR HT
  obtain ⟨m, k, e⟩ := g
  clear hg
  simp only at HL HE HG HR HT
  go_wp2_with fail
  refine (HG A1 c1 w1 hr1).out.mono ?_
  rintro r w2 ⟨rfl, rfl⟩
  clear HG hr1
  go_wp2_with fail
  refine (HR A c w1 (HHR.out.fr F1 (fun _ _ h => h))).out.mono ?_
  rintro r w2 ⟨rfl, rfl⟩
  clear HR
  have hr2 : RdB (w1.alloc (.cells #[] 5)) A xs := HHR.out.fr (F1.alloc _) (fun _ _ h => h)
  have F2 : Fr (fun _ => False) w (w1.alloc (.cells #[] 5)) := F1.alloc _
  have ho2 := (ow_lit0 w1)
  have hs2 : w1.heap.size ≤ (w1.alloc (.cells #[] 5)).heap.size := by rw [World.size_alloc]; omega
  have hs3 := F1.size
  go_wp2_with (at_builtin; go_must (refine append8_row w1.heap.size rfl _ _ rfl (.slice (some ⟨w1.heap.size, 0, none⟩) 0 0) [] xs A c rfl rfl ho2 hr2 hs2 hb1 ?_); intro v1 w2 hown hF)
  simp only [List.nil_append] at hown
  have F3 : Fr (fun _ => False) w w2 := F2.trans' hF (fun i hi hk => by have := hk.1; omega)
  clear F2 hF ho2 hr2 hs2 F1 hs1 hs3
  obtain ⟨A2, c2, rfl, hr3⟩ := hown.reads
  have hc2 : xs.length ≤ c2 := hown.cap
  clear hown
  by_cases he : e = 0
  · subst he
    obtain ⟨_, hk⟩ := (HO m k rfl).out
    simp only [Nat.zero_add] at hk
    clear HE HO
    rcases Int.lt_or_le most m with h2 | h2
    · have hT : T = ([], 0, 18) := by rw [HT.out, if_neg (by simp), if_pos (.inr h2)]
      go_wp2_with fail
      refine (HTT A2 c2 w2 hr3 hc2).out.mono ?_
      rintro r w3 ⟨rfl, rfl⟩
      rw [hT]
      clear HTT HT hr3
      have e0 : strOfNums [] = ⟨#[]⟩ := rfl
      rw [e0]
      go_wp2_with fail
      rcases Nat.lt_or_ge xs.length 8 with h8 | h8
      · refine (wire_getEight_no A xs c _ h8).mono ?_
        rintro r w3 ⟨rfl, rfl⟩
        go_wp2_with fail
        refine (works09 _).mono ?_
        rintro r w4 ⟨rfl, F4⟩
        go_wp2_with fail
        go_ret
        exact ⟨rfl, F3.trans F4⟩
      · have hr4 := HHR.out.fr F3 (fun _ _ h => h)
        refine (wire_getEight A xs c _ hr4 HX.out (by omega) hc h8).mono ?_
        rintro r w3 ⟨rfl, rfl⟩
        obtain ⟨ys, hcut, hys⟩ := cut_to8 A c xs 8 h8 hc
        replace hcut : ∀ W : World, (Instr.slice 39 (.slice A xs.length c) none (some (.int .i64 8)) none).run Try.prog W = .ok (.slice A ys.length c) W := hcut
        have hby : Byt ys := by rw [hys.out.1]; exact fun x h => HX.out x (List.mem_of_mem_take h)
        have hbe : be8 (beVal (xs.take 8)) = ys := by rw [← hys.out.1]; exact be8_val hys.out.2.1 hby
        have hbl : beVal (xs.take 8) < 18446744073709551616 := by
          have := beVal_lt ys hby
          rw [hys.out.2.1, hys.out.1] at this
          exact this
        have HBE := Lib.hid hbe
        have HBL := Lib.hid hbl
        clear hbe hbl hby
        generalize beVal (xs.take 8) = q at HBE HBL ⊢
        have HRY : ∀ w', Fr (fun _ => False) w w' → Hid (RdB w' A ys) := fun w' hF => hys.out.2.2 _ (HHR.out.fr hF (fun _ _ h => h))
        clear hys hr4
        go_wp2_with fail
        have hcvA := conv_str8 (w := w2.drew) (c := c) (HRY _ F3.drew).out
        have FD := F3.drew
        go_region_with (first | (go_at_call 26; refine (ref_big q _ HBL.out).mono ?_; rintro r w3 ⟨v, rfl, hown, F5⟩; rw [HBE.out] at hown; obtain ⟨A5, c5, rfl, hr5⟩ := hown.reads; have hcv5 := conv_str8 (c := c5) hr5; have F6 := FD.trans F5; clear hcvA; have hcvA := conv_str8 (c := c) (HRY _ F6).out; clear hown hr5 F5) | (go_at_call 39; refine (works09 _).mono ?_; rintro r w4 ⟨rfl, F7⟩; have F8 := F6.trans F7; clear hcvA hcv5 F7))
        all_goals go_wp2_with fail
        all_goals go_ret
        all_goals exact ⟨rfl, F8⟩
    · rcases Nat.lt_or_ge (xs.length - k) m with h3 | h3
      · have hT : T = ([], 0, 4) := by rw [HT.out, if_neg (by simp), if_neg (by omega), if_pos h3]
        go_wp2_with fail
        refine (HTT A2 c2 w2 hr3 hc2).out.mono ?_
        rintro r w3 ⟨rfl, rfl⟩
        rw [hT]
        clear HTT HT hr3
        have e0 : strOfNums [] = ⟨#[]⟩ := rfl
        rw [e0]
        go_wp2_with fail
        rcases Nat.lt_or_ge xs.length 8 with h8 | h8
        · refine (wire_getEight_no A xs c _ h8).mono ?_
          rintro r w3 ⟨rfl, rfl⟩
          go_wp2_with fail
          refine (works09 _).mono ?_
          rintro r w4 ⟨rfl, F4⟩
          go_wp2_with fail
          go_ret
          exact ⟨rfl, F3.trans F4⟩
        · have hr4 := HHR.out.fr F3 (fun _ _ h => h)
          refine (wire_getEight A xs c _ hr4 HX.out (by omega) hc h8).mono ?_
          rintro r w3 ⟨rfl, rfl⟩
          obtain ⟨ys, hcut, hys⟩ := cut_to8 A c xs 8 h8 hc
          replace hcut : ∀ W : World, (Instr.slice 39 (.slice A xs.length c) none (some (.int .i64 8)) none).run Try.prog W = .ok (.slice A ys.length c) W := hcut
          have hby : Byt ys := by rw [hys.out.1]; exact fun x h => HX.out x (List.mem_of_mem_take h)
          have hbe : be8 (beVal (xs.take 8)) = ys := by rw [← hys.out.1]; exact be8_val hys.out.2.1 hby
          have hbl : beVal (xs.take 8) < 18446744073709551616 := by
            have := beVal_lt ys hby
            rw [hys.out.2.1, hys.out.1] at this
            exact this
          have HBE := Lib.hid hbe
          have HBL := Lib.hid hbl
          clear hbe hbl hby
          generalize beVal (xs.take 8) = q at HBE HBL ⊢
          have HRY : ∀ w', Fr (fun _ => False) w w' → Hid (RdB w' A ys) := fun w' hF => hys.out.2.2 _ (HHR.out.fr hF (fun _ _ h => h))
          clear hys hr4
          go_wp2_with fail
          have hcvA := conv_str8 (w := w2.drew) (c := c) (HRY _ F3.drew).out
          have FD := F3.drew
          go_region_with (first | (go_at_call 26; refine (ref_big q _ HBL.out).mono ?_; rintro r w3 ⟨v, rfl, hown, F5⟩; rw [HBE.out] at hown; obtain ⟨A5, c5, rfl, hr5⟩ := hown.reads; have hcv5 := conv_str8 (c := c5) hr5; have F6 := FD.trans F5; clear hcvA; have hcvA := conv_str8 (c := c) (HRY _ F6).out; clear hown hr5 F5) | (go_at_call 39; refine (works09 _).mono ?_; rintro r w4 ⟨rfl, F7⟩; have F8 := F6.trans F7; clear hcvA hcv5 F7))
          all_goals go_wp2_with fail
          all_goals go_ret
          all_goals exact ⟨rfl, F8⟩
      · obtain ⟨A', ys, hcut, hys⟩ := cut_mid8 A c xs k (k + m) (by omega) (by omega) hc
        simp only [Int.natCast_add] at hcut
        have hcv := conv_str8 (c := c - k) (hys.out.2.2 w2 (HHR.out.fr F3 (fun _ _ h => h)))
        have hT : T = (ys, k + m, 0) := by rw [HT.out, if_neg (by simp), if_neg (by omega), if_neg (by omega), hys.out.1]
        clear hys
        go_wp2_with fail
        refine (HTT A2 c2 w2 hr3 hc2).out.mono ?_
        rintro r w3 ⟨rfl, rfl⟩
        rw [hT]
        clear HTT HT hr3
        simp only [Int.natCast_add]
        generalize strOfNums ys = str at hcv ⊢
        go_wp2_with fail
        clear hcut hcv
        rcases Nat.lt_or_ge xs.length 8 with h8 | h8
        · refine (wire_getEight_no A xs c _ h8).mono ?_
          rintro r w3 ⟨rfl, rfl⟩
          go_wp2_with fail
          refine (works09 _).mono ?_
          rintro r w4 ⟨rfl, F4⟩
          go_wp2_with fail
          go_ret
          exact ⟨rfl, F3.trans F4⟩
        · have hr4 := HHR.out.fr F3 (fun _ _ h => h)
          refine (wire_getEight A xs c _ hr4 HX.out (by omega) hc h8).mono ?_
          rintro r w3 ⟨rfl, rfl⟩
          obtain ⟨ys, hcut, hys⟩ := cut_to8 A c xs 8 h8 hc
          replace hcut : ∀ W : World, (Instr.slice 39 (.slice A xs.length c) none (some (.int .i64 8)) none).run Try.prog W = .ok (.slice A ys.length c) W := hcut
          have hby : Byt ys := by rw [hys.out.1]; exact fun x h => HX.out x (List.mem_of_mem_take h)
          have hbe : be8 (beVal (xs.take 8)) = ys := by rw [← hys.out.1]; exact be8_val hys.out.2.1 hby
          have hbl : beVal (xs.take 8) < 18446744073709551616 := by
            have := beVal_lt ys hby
            rw [hys.out.2.1, hys.out.1] at this
            exact this
          have HBE := Lib.hid hbe
          have HBL := Lib.hid hbl
          clear hbe hbl hby
          generalize beVal (xs.take 8) = q at HBE HBL ⊢
          have HRY : ∀ w', Fr (fun _ => False) w w' → Hid (RdB w' A ys) := fun w' hF => hys.out.2.2 _ (HHR.out.fr hF (fun _ _ h => h))
          clear hys hr4
          go_wp2_with fail
          have hcvA := conv_str8 (w := w2.drew) (c := c) (HRY _ F3.drew).out
          have FD := F3.drew
          go_region_with (first | (go_at_call 26; refine (ref_big q _ HBL.out).mono ?_; rintro r w3 ⟨v, rfl, hown, F5⟩; rw [HBE.out] at hown; obtain ⟨A5, c5, rfl, hr5⟩ := hown.reads; have hcv5 := conv_str8 (c := c5) hr5; have F6 := FD.trans F5; clear hcvA; have hcvA := conv_str8 (c := c) (HRY _ F6).out; clear hown hr5 F5) | (go_at_call 39; refine (works09 _).mono ?_; rintro r w4 ⟨rfl, F7⟩; have F8 := F6.trans F7; clear hcvA hcv5 F7))
          all_goals go_wp2_with fail
          all_goals go_ret
          all_goals exact ⟨rfl, F8⟩
  · obtain ⟨e1, e2⟩ := HE.out he
    subst e1 e2
    have hT : T = ([], 0, e) := by rw [HT.out, if_pos he]
    clear HE HO
    go_wp2_with fail
    refine (HTT A2 c2 w2 hr3 hc2).out.mono ?_
    rintro r w3 ⟨rfl, rfl⟩
    rw [hT]
    clear HTT HT hr3
    have e0 : strOfNums [] = ⟨#[]⟩ := rfl
    rw [e0]
    go_wp2_with fail
    rcases Nat.lt_or_ge xs.length 8 with h8 | h8
    · refine (wire_getEight_no A xs c _ h8).mono ?_
      rintro r w3 ⟨rfl, rfl⟩
      go_wp2_with fail
      refine (works09 _).mono ?_
      rintro r w4 ⟨rfl, F4⟩
      go_wp2_with fail
      go_ret
      exact ⟨rfl, F3.trans F4⟩
    · have hr4 := HHR.out.fr F3 (fun _ _ h => h)
      refine (wire_getEight A xs c _ hr4 HX.out (by omega) hc h8).mono ?_
      rintro r w3 ⟨rfl, rfl⟩
      obtain ⟨ys, hcut, hys⟩ := cut_to8 A c xs 8 h8 hc
      replace hcut : ∀ W : World, (Instr.slice 39 (.slice A xs.length c) none (some (.int .i64 8)) none).run Try.prog W = .ok (.slice A ys.length c) W := hcut
      have hby : Byt ys := by rw [hys.out.1]; exact fun x h => HX.out x (List.mem_of_mem_take h)
      have hbe : be8 (beVal (xs.take 8)) = ys := by rw [← hys.out.1]; exact be8_val hys.out.2.1 hby
      have hbl : beVal (xs.take 8) < 18446744073709551616 := by
        have := beVal_lt ys hby
        rw [hys.out.2.1, hys.out.1] at this
        exact this
      have HBE := Lib.hid hbe
      have HBL := Lib.hid hbl
      clear hbe hbl hby
      generalize beVal (xs.take 8) = q at HBE HBL ⊢
      have HRY : ∀ w', Fr (fun _ => False) w w' → Hid (RdB w' A ys) := fun w' hF => hys.out.2.2 _ (HHR.out.fr hF (fun _ _ h => h))
      clear hys hr4
      go_wp2_with fail
      have hcvA := conv_str8 (w := w2.drew) (c := c) (HRY _ F3.drew).out
      have FD := F3.drew
      go_region_with (first | (go_at_call 26; refine (ref_big q _ HBL.out).mono ?_; rintro r w3 ⟨v, rfl, hown, F5⟩; rw [HBE.out] at hown; obtain ⟨A5, c5, rfl, hr5⟩ := hown.reads; have hcv5 := conv_str8 (c := c5) hr5; have F6 := FD.trans F5; clear hcvA; have hcvA := conv_str8 (c := c) (HRY _ F6).out; clear hown hr5 F5) | (go_at_call 39; refine (works09 _).mono ?_; rintro r w4 ⟨rfl, F7⟩; have F8 := F6.trans F7; clear hcvA hcv5 F7))
      all_goals go_wp2_with fail
      all_goals go_ret
      all_goals exact ⟨rfl, F8⟩
end Go.Proofs.Ytlpigldogglmcaa
