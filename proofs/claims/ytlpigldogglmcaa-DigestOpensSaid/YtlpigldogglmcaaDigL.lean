/- Layer 10's works, and what opening what was sealed gives (plain). -/
import Derived.Test.YtlpigldogglmcaaDigO
import Derived.Test.YtlpigldogglmcaaWireL
import Derived.Test.YtlpigldogglmcaaAppR
import Derived.Lib.SlBytesConst
set_option linter.unusedVariables false
set_option linter.unusedSimpArgs false
namespace Go.Proofs.Ytlpigldogglmcaa
open Go.RowKit
open Go.Proofs.YtlpigldogglmcaaW.PrintWords

theorem rd_litm (w : World) (xs : List Int) (fr : Nat × Nat) (hm : xs.length ≤ 9223372036854775807) : RdB (w.alloc (.cells (nums .u8 xs).toArray 5 fr)) (some ⟨w.heap.size, 0, none⟩) xs := by
  have h := rd_lit w xs hm
  refine ⟨h.1, h.2.1, fun hn => ?_⟩
  obtain ⟨ad, e, hc⟩ := h.2.2 hn
  injection e with e
  subst e
  refine ⟨_, rfl, fun j hj => ?_⟩
  have := hc j hj
  have hadd : (⟨w.heap.size, 0, none⟩ : Addr).add j = ⟨w.heap.size, j, none⟩ := by unfold Addr.add; split <;> simp_all
  rw [hadd, World.cell?_alloc_mark] at this ⊢
  exact this
theorem be8_len (m : Nat) : (be8 m).length = 8 := rfl
theorem seal_ok (xs : List Int) : dOf ((xs ++ be8 (dOf xs)).take xs.length) = beVal ((xs ++ be8 (dOf xs)).drop xs.length) := by
  rw [List.take_left, List.drop_left, beVal_be8 (dOf_lt xs)]
theorem seal_byt {xs : List Int} (h : Byt xs) : Byt (xs ++ be8 (dOf xs)) := h.append (beTo_byt _ 8)
theorem dig_a : dOf [97] = 12638187200555641996 := by decide +kernel
theorem str_abc : strOfNums [97, 98, 99] = ⟨#[97, 98, 99]⟩ := by decide +kernel

/-- What was sealed is opened. -/
theorem open_sealed (A : Option Addr) (xs : List Int) (c : Nat) (w : World) (hc : xs.length + 8 ≤ c) (hr : RdB w A (xs ++ be8 (dOf xs))) (hx : Byt xs) (hl : xs.length ≤ 140737488355300) :
    Calls Try.prog 25 #[.slice A (xs ++ be8 (dOf xs)).length c] w fun r w' => ∃ v, r = .returned (.tuple #[v, .int .i64 0]) ∧ OwB w' w.heap.size v xs ∧ Fr (fun _ => False) w w' := by
  have hlen : (xs ++ be8 (dOf xs)).length = xs.length + 8 := by rw [List.length_append, be8_len]
  have h := dig_open_ok A (xs ++ be8 (dOf xs)) c xs.length w hlen (by omega) hr (seal_byt hx) (by omega) (seal_ok xs)
  rw [List.take_left] at h
  exact h

set_option maxRecDepth 100000 in
theorem works10 (w : World) : Calls Try.prog 24 #[] w fun r w' => r = .returned (.bool true) ∧ Fr (fun _ => False) w w' := by
  have hr0 : RdB (w.alloc (.cells #[.int .u8 97, .int .u8 98, .int .u8 99] 5 (3, 4))) (some ⟨w.heap.size, 0, none⟩) [97, 98, 99] := rd_litm w [97, 98, 99] (3, 4) (by simp)
  have F0 : Fr (fun _ => False) w (w.alloc (.cells #[.int .u8 97, .int .u8 98, .int .u8 99] 5 (3, 4))) := (Fr.refl _ _).alloc _
  have hby : Byt [97, 98, 99] := by intro x hx; simp at hx; omega
  have hcs := Lib.run_convert_bytes_const (P := Try.prog) w 39 5 #[.int .u8 97, .int .u8 98, .int .u8 99] 3 3 Try.underlying39 Try.underlying5
  have hcs2 := fun w => Lib.run_convert_bytes_const (P := Try.prog) w 39 5 #[.int .u8 97] 1 1 Try.underlying39 Try.underlying5
  go_enter Try.func24, Try.ntmps24
  go_wp2_with fail
  generalize w.alloc (.cells #[.int .u8 97, .int .u8 98, .int .u8 99] 5 (3, 4)) = w0 at hr0 F0 ⊢
  refine (dig_seal (some ⟨w.heap.size, 0, none⟩) [97, 98, 99] 3 w0 (by simp) hr0 hby (by simp)).mono ?_
  rintro r w1 ⟨v, rfl, hown, F1⟩
  obtain ⟨A1, c1, rfl, hr1⟩ := hown.reads
  have hc1 : 11 ≤ c1 := hown.cap
  replace F1 := F0.trans F1
  have HO := Lib.hid (open_sealed A1 [97, 98, 99] c1 w1 hc1 hr1 hby (by simp))
  generalize ([97, 98, 99] ++ be8 (dOf [97, 98, 99]) : List Int) = L at HO hr1
  clear hown hr1 hc1
  go_wp2_with fail
  refine HO.out.mono ?_
  rintro r w2 ⟨v, rfl, hown, F2⟩
  obtain ⟨A2, c2, rfl, hr2⟩ := hown.reads
  have F3 := F1.trans F2
  have F4 : Fr (fun _ => False) w2 (w2.alloc (.cells #[.int .u8 97] 5 (1, 2))) := (Fr.refl _ _).alloc _
  have hcv : (convert 39 9 (.slice A2 3 c2)).run Try.prog (w2.alloc (.cells #[.int .u8 97] 5 (1, 2))) = .ok (.string ⟨#[97, 98, 99]⟩) (w2.alloc (.cells #[.int .u8 97] 5 (1, 2))) := by
    have := conv_str8 (c := c2) (hr2.fr F4 (fun _ _ h => h))
    rw [← str_abc]
    exact this
  have HA := Lib.hid (dig_of (some ⟨w2.heap.size, 0, none⟩) [97] 1 (w2.alloc (.cells #[.int .u8 97] 5 (1, 2))) (rd_litm w2 [97] (1, 2) (by simp)) (by intro x hx; simp at hx; omega) (by simp))
  rw [dig_a] at HA
  have F5 := F3.trans F4
  clear HO hown hr2 F1 F2 F3 F4
  go_wp2_with fail
  refine HA.out.mono ?_
  rintro r w3 ⟨rfl, rfl⟩
  go_wp2_with fail
  go_ret
  exact ⟨rfl, F5⟩
end Go.Proofs.Ytlpigldogglmcaa
