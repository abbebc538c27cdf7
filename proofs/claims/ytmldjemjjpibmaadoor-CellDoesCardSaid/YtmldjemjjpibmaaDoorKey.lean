/- Keys: which texts are. -/
import Derived.Test.YtmldjemjjpibmaaDoorCmdD
set_option linter.unusedVariables false
set_option linter.unusedSimpArgs false
namespace Go.Proofs.YtmldjemjjpibmaaDoor
open Go.RowKit
open Go.Proofs.YtmldjemjjpibmaaDoorW.PrintWords

@[go_sem] theorem run_store_float {P : Program} {w : World} {a : Addr} {m : Mode} (k : FloatKind) (b : Nat) : (store a (.float k b) m).run P w = stored P w a (.float k b) m := run_store P w a _ m rfl
def charK (c : Nat) : Prop := (97 ≤ c ∧ c ≤ 122) ∨ (48 ≤ c ∧ c ≤ 57)
def keyOk (s : ByteArray) : Prop := (∀ i (h : i < s.size), charK s[i].toNat) ∧ 1 ≤ s.size ∧ s.size ≤ 12
/-- What the four tests of one character tell. -/
theorem char_cases (c : Nat) : (decide ((97 : Int) ≤ (c : Int)) = true ∧ decide ((c : Int) ≤ 122) = true ∧ charK c) ∨
    (decide ((97 : Int) ≤ (c : Int)) = true ∧ decide ((c : Int) ≤ 122) = false ∧ decide ((48 : Int) ≤ (c : Int)) = true ∧ decide ((c : Int) ≤ 57) = false ∧ ¬ charK c) ∨
    (decide ((97 : Int) ≤ (c : Int)) = false ∧ decide ((48 : Int) ≤ (c : Int)) = true ∧ decide ((c : Int) ≤ 57) = true ∧ charK c) ∨
    (decide ((97 : Int) ≤ (c : Int)) = false ∧ decide ((48 : Int) ≤ (c : Int)) = true ∧ decide ((c : Int) ≤ 57) = false ∧ ¬ charK c) ∨
    (decide ((97 : Int) ≤ (c : Int)) = false ∧ decide ((48 : Int) ≤ (c : Int)) = false ∧ ¬ charK c) := by
  simp only [decide_eq_true_eq, decide_eq_false_iff_not, charK]
  omega
theorem key_end (s : ByteArray) (hall : ∀ i (h : i < s.size), charK s[i].toNat) : cdec (keyOk s) = (decide ((1 : Int) ≤ (s.size : Int)) && decide ((s.size : Int) ≤ 12)) := by
  by_cases h : 1 ≤ s.size ∧ s.size ≤ 12
  · rw [cdec_true ⟨hall, h⟩, decide_eq_true (by omega), decide_eq_true (by omega)]; rfl
  · rw [cdec_false fun h' => h h'.2]
    by_cases h1 : 1 ≤ s.size
    · rw [decide_eq_false (p := (s.size : Int) ≤ 12) (by omega), Bool.and_false]
    · rw [decide_eq_false (p := (1 : Int) ≤ (s.size : Int)) (by omega), Bool.false_and]
set_option maxHeartbeats 1000000 in
theorem ref_key (s : ByteArray) (w : World) (hs : s.size ≤ maxLen) :
    Calls Tryd.prog 30 #[.string s] w fun r w' => r = .returned (.bool (cdec (keyOk s))) ∧ w = w' := by
  unfold maxLen at hs
  go_enter Tryd.func30, Tryd.ntmps30
  go_wp2_with fail
  go_loop [3] (fun i => ∃ k : Nat, k ≤ s.size ∧ i = .int .i64 k ∧ ∀ j (h : j < s.size), j < k → charK s[j].toNat) (fun i => s.size - (intOf i).toNat)
  case atStart => exact ⟨0, Nat.zero_le _, rfl, fun _ _ h => absurd h (Nat.not_lt_zero _)⟩
  case round =>
    obtain ⟨k, hk, rfl, hA⟩ := hrel
    have HA := Lib.hid hA
    clear hA
    by_cases hlt : k < s.size
    · have next : charK s[k].toNat → ∀ j (h : j < s.size), j < k + 1 → charK s[j].toNat := fun hc j h hj => by
        rcases Nat.lt_or_ge j k with h1 | h1
        · exact HA.out j h h1
        · obtain rfl : j = k := by omega
          exact hc
      have stop : ¬ charK s[k].toNat → cdec (keyOk s) = false := fun hc => cdec_false fun h => hc (h.1 k hlt)
      have HN := Lib.hid next
      have HS := Lib.hid stop
      clear next stop
      rcases char_cases s[k].toNat with ⟨t1, t2, hc⟩ | ⟨t1, t2, t3, t4, hc⟩ | ⟨t1, t2, t3, hc⟩ | ⟨t1, t2, t3, hc⟩ | ⟨t1, t2, hc⟩ <;> (have HC := Lib.hid hc; clear hc)
      · go_wp2_with fail
        go_round
        case rel => exact ⟨k + 1, by omega, by go_num, HN.out HC.out⟩
        case measure => simp [intOf]; omega
      · go_wp2_with fail
        go_ret
        exact ⟨ret_bool (HS.out HC.out).symm, rfl⟩
      · go_wp2_with fail
        go_round
        case rel => exact ⟨k + 1, by omega, by go_num, HN.out HC.out⟩
        case measure => simp [intOf]; omega
      · go_wp2_with fail
        go_ret
        exact ⟨ret_bool (HS.out HC.out).symm, rfl⟩
      · go_wp2_with fail
        go_ret
        exact ⟨ret_bool (HS.out HC.out).symm, rfl⟩
    · have hk' : k = s.size := by omega
      have hall : (∀ i (h : i < s.size), charK s[i].toNat) := fun j h => HA.out j h (by omega)
      have e : cdec (keyOk s) = (decide ((1 : Int) ≤ (s.size : Int)) && decide ((s.size : Int) ≤ 12)) := by
        by_cases h : 1 ≤ s.size ∧ s.size ≤ 12
        · rw [cdec_true ⟨hall, h⟩, decide_eq_true (by omega), decide_eq_true (by omega)]; rfl
        · rw [cdec_false fun h' => h h'.2]
          by_cases h1 : 1 ≤ s.size
          · rw [decide_eq_false (p := (s.size : Int) ≤ 12) (by omega), Bool.and_false]
          · rw [decide_eq_false (p := (1 : Int) ≤ (s.size : Int)) (by omega), Bool.false_and]
      have HE := Lib.hid e
      clear e hall HA
      by_cases h1 : 1 ≤ s.size
      · have t1 : decide ((1 : Int) ≤ (s.size : Int)) = true := decide_eq_true (by omega)
        rw [t1, Bool.true_and] at HE
        clear h1
        go_wp2_with fail
        go_ret
        exact ⟨ret_bool HE.out.symm, rfl⟩
      · have t1 : decide ((1 : Int) ≤ (s.size : Int)) = false := decide_eq_false (by omega)
        rw [t1, Bool.false_and] at HE
        clear h1
        go_wp2_with fail
        go_ret
        exact ⟨ret_bool HE.out.symm, rfl⟩
theorem bytes_cell (W : World) (e : TypeId) (s : ByteArray) {j : Nat} (hj : j < s.size) : (Lib.bytesWorld W e s).cell? ⟨W.heap.size, j, none⟩ = some (.int .u8 (s[j].toNat : Int)) := by
  rw [Lib.bytesWorld_cell W e s j hj]
  have h' : j < s.data.toList.length := by rw [data_length]; exact hj
  simp [List.getD_eq_getElem?_getD, List.getElem?_eq_getElem h']
  rfl
set_option maxHeartbeats 1000000 in
theorem cmd_key (s : ByteArray) (w : World) (hs : s.size ≤ maxLen) :
    Calls Tryd.prog 27 #[.string s] w fun r w' => r = .returned (.bool (cdec (keyOk s))) ∧ Fr (fun _ => False) w w' := by
  unfold maxLen at hs
  have kb := fun W => print_bytes (P := Tryd.prog) 9 62 5 Tryd.underlying9 Tryd.underlying62 Tryd.underlying5 s W
  have hcell : ∀ j (h : j < s.size), (Lib.bytesWorld w 5 s).cell? ⟨w.heap.size, j, none⟩ = some (.int .u8 (s[j].toNat : Int)) := fun j h => bytes_cell w 5 s h
  have HCELL := Lib.hid hcell
  have HF := Lib.hid (Fr.of_below (S := fun _ => False) (bytes_below (Below.refl w.heap.size w) (Nat.le_refl _) 5 s))
  clear hcell
  go_enter Tryd.func27, Tryd.ntmps27
  go_wp2_with fail
  clear kb
  generalize Lib.bytesWorld w 5 s = wb at *
  go_loop [8] (fun i => ∃ k : Nat, k ≤ s.size ∧ i = .int .i64 k ∧ ∀ j (h : j < s.size), j < k → charK s[j].toNat) (fun i => s.size - (intOf i).toNat)
  case atStart => exact ⟨0, Nat.zero_le _, rfl, fun _ _ h => absurd h (Nat.not_lt_zero _)⟩
  case round =>
    obtain ⟨k, hk, rfl, hA⟩ := hrel
    have HA := Lib.hid hA
    clear hA
    by_cases hlt : k < s.size
    · have next : charK s[k].toNat → ∀ j (h : j < s.size), j < k + 1 → charK s[j].toNat := fun hc j h hj => by
        rcases Nat.lt_or_ge j k with h1 | h1
        · exact HA.out j h h1
        · obtain rfl : j = k := by omega
          exact hc
      have stop : ¬ charK s[k].toNat → cdec (keyOk s) = false := fun hc => cdec_false fun h => hc (h.1 k hlt)
      have HN := Lib.hid next
      have HS := Lib.hid stop
      have x0 := HCELL.out k hlt
      clear next stop
      rcases char_cases s[k].toNat with ⟨t1, t2, hc⟩ | ⟨t1, t2, t3, t4, hc⟩ | ⟨t1, t2, t3, hc⟩ | ⟨t1, t2, t3, hc⟩ | ⟨t1, t2, hc⟩ <;> (have HC := Lib.hid hc; clear hc)
      · go_wp2_with fail
        go_round
        case rel => exact ⟨k + 1, by omega, by go_num, HN.out HC.out⟩
        case measure => simp [intOf]; omega
      · go_wp2_with fail
        go_ret
        exact ⟨ret_bool (HS.out HC.out).symm, HF.out⟩
      · go_wp2_with fail
        go_round
        case rel => exact ⟨k + 1, by omega, by go_num, HN.out HC.out⟩
        case measure => simp [intOf]; omega
      · go_wp2_with fail
        go_ret
        exact ⟨ret_bool (HS.out HC.out).symm, HF.out⟩
      · go_wp2_with fail
        go_ret
        exact ⟨ret_bool (HS.out HC.out).symm, HF.out⟩
    · have hk' : k = s.size := by omega
      have hall : (∀ i (h : i < s.size), charK s[i].toNat) := fun j h => HA.out j h (by omega)
      have HE := Lib.hid (key_end s hall)
      clear hall HA
      by_cases h1 : 1 ≤ s.size
      · have t1 : decide ((1 : Int) ≤ (s.size : Int)) = true := decide_eq_true (by omega)
        rw [t1, Bool.true_and] at HE
        clear h1
        go_wp2_with fail
        go_ret
        exact ⟨ret_bool HE.out.symm, HF.out⟩
      · have t1 : decide ((1 : Int) ≤ (s.size : Int)) = false := decide_eq_false (by omega)
        rw [t1, Bool.false_and] at HE
        clear h1
        go_wp2_with fail
        go_ret
        exact ⟨ret_bool HE.out.symm, HF.out⟩
end Go.Proofs.YtmldjemjjpibmaaDoor
