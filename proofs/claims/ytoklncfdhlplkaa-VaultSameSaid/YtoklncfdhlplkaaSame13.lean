/- VaultSame's walk. -/
import Derived.Test.YtoklncfdhlplkaaSameP
import Derived.Test.YtoklncfdhlplkaaWorks13
set_option linter.unusedVariables false
set_option linter.unusedSimpArgs false
namespace Go.Proofs.Ytoklncfdhlplkaa
open Go.RowKit
open Go.Proofs.YtoklncfdhlplkaaW.PrintWords

set_option maxRecDepth 100000 in
set_option maxHeartbeats 8000000 in
theorem lawSame13 (A A' : Option Addr) (n c n' c' : Nat) (L M : List Item) (w : World) (hC : itemK.C w A n L) (hC' : itemK.C w A' n' M) (hL : ItemsGood L) (hM : ItemsGood M) :
    Calls Try.prog 3 #[.slice A n c, .slice A' n' c'] w fun r w' => r = .returned (.bool true) ∧ Fr (fun _ => False) w w' := by
  have hmx : n ≤ 9223372036854775807 := hC.2.1
  have hmx' : n' ≤ 9223372036854775807 := hC'.2.1
  have HLn := Lib.hid (show L.length = n from hC.1)
  have HLn' := Lib.hid (show M.length = n' from hC'.1)
  have HC := Lib.hid hC
  have HC' := Lib.hid hC'
  have HO := Lib.hid hL
  have HO' := Lib.hid hM
  clear hC hC' hL hM
  rcases Nat.lt_or_ge 12 n with hb1 | hb1
  · have t1 : decide ((12 : Int) < (n : Int)) = true := decide_eq_true (by omega)
    go_enter Try.func3, Try.ntmps3
    go_wp2_with fail
    refine (works13 _).mono ?_
    rintro e w1 ⟨rfl, hF1⟩
    go_wp2_with fail
    go_ret
    exact ⟨rfl, hF1⟩
  · have t1 : decide ((12 : Int) < (n : Int)) = false := decide_eq_false (by omega)
    rcases Nat.lt_or_ge 12 n' with hb2 | hb2
    · have t2 : decide ((12 : Int) < (n' : Int)) = true := decide_eq_true (by omega)
      go_enter Try.func3, Try.ntmps3
      go_wp2_with fail
      refine (works13 _).mono ?_
      rintro e w1 ⟨rfl, hF1⟩
      go_wp2_with fail
      go_ret
      exact ⟨rfl, hF1⟩
    · have t2 : decide ((12 : Int) < (n' : Int)) = false := decide_eq_false (by omega)
      go_enter Try.func3, Try.ntmps3
      go_wp2_with fail
      refine (vault_new w).mono ?_
      rintro r w1 ⟨g, S, rfl, hV, hS, hF⟩
      have HV1 := Lib.hid hV
      have HSa := Lib.hid hS
      have HF1 := Lib.hid hF
      clear hV hS hF
      go_wp2_with fail
      refine (vault_new w1).mono ?_
      rintro r w2 ⟨g', S', rfl, hV, hS, hF⟩
      have HV2 := Lib.hid hV
      have HSb1 := Lib.hid hS
      have HF2 := Lib.hid hF
      clear hV hS hF
      go_wp2_with fail
      obtain ⟨x, hx⟩ : ∃ x, x = w2.heap.size := ⟨_, rfl⟩
      have hF3 := ((Fr.refl (fun _ => False) w2).alloc (.cells #[] 34)).alloc (.cells #[] 34)
      have hra := R_empty (itF w) 34 w2
      have hle : w.heap.size ≤ w2.heap.size := (HF1.out.trans HF2.out).size
      have hra2 := Kd.R_alloc (Kd.R_mono (itF_own (Kd.R_lower hra hle)) (ok' := fun b => b = x) (fun b hb => by rw [hx]; exact own_new _ _ hb)) (.cells #[] 34)
      have hrb := R_empty (itF w) 34 (w2.alloc (.cells #[] 34))
      have hrb2 := Kd.R_mono (itF_own (Kd.R_lower hrb (Nat.le_trans hle (hF3.size |> fun _ => by simp)))) (ok' := fun b => b = x + 1) (fun b hb => by rw [hx]; have := own_new _ _ hb; simpa using this)
      rw [World.size_alloc] at hrb2
      have HRa := Lib.hid hra2
      have HRb := Lib.hid hrb2
      have HVa := Lib.hid ((HV1.out.fr HF2.out (fun _ _ h => h)).fr hF3 (fun _ _ h => h))
      have HVb := Lib.hid (HV2.out.fr hF3 (fun _ _ h => h))
      have HW3 := Lib.hid ((HF1.out.trans HF2.out).trans hF3)
      have HSS := Lib.hid (show ∀ b, S' b → w1.heap.size ≤ b ∧ b < x from fun b hb => ⟨HSb1.out b hb, by rw [hx]; exact HV2.out.lt b hb⟩)
      have HSa2 := Lib.hid (show ∀ b, S b → b < w1.heap.size from HV1.out.lt)
      have HX := Lib.hid (show w.heap.size ≤ x ∧ x + 2 = ((w2.alloc (.cells #[] 34)).alloc (.cells #[] 34)).heap.size ∧ w1.heap.size ≤ x ∧ w.heap.size ≤ w1.heap.size from by rw [hx]; exact ⟨hle, by simp, HF2.out.size, HF1.out.size⟩)
      have HSb := Lib.hid (show ∀ b, S' b → w.heap.size ≤ b from fun b hb => Nat.le_trans HF1.out.size (HSb1.out b hb))
      have HNX := Lib.hid (show ¬ S x from fun h => by have h1 := HSa2.out x h; have h2 := HX.out; omega)
      clear hF3 hra hra2 hrb hrb2 hle
      rw [← hx]
      generalize ((w2.alloc (.cells #[] 34)).alloc (.cells #[] 34)) = W3 at HRa HRb HVa HVb HW3 HX ⊢
      rw [← hx] at HRa HRb
      clear hx HV1 HV2 HF1 HF2
      go_loopw [7, 9] (fun u i wr => ∃ k : Nat, k ≤ n ∧ i = .int .i64 k ∧ VRow w W3 wr S x g L k u) (fun _ i _ => n - (intOf i).toNat)
      case atStart => exact ⟨0, Nat.zero_le _, rfl, VRow.start L HVa.out HNX.out HRa.out⟩
      case round =>
        obtain ⟨k, hk, rfl, S1, m, hm, hV, hS1, hR, hG⟩ := hrel
        have HV := Lib.hid hV
        have HS1 := Lib.hid hS1
        have HR := Lib.hid hR
        have HG := Lib.hid hG
        have hs1w : ∀ b, S1 b → w.heap.size ≤ b := fun b hb => (hS1 b hb).elim (HSa.out b) (fun h => Nat.le_trans HW3.out.size h)
        have HS1W := Lib.hid hs1w
        have HWr := Lib.hid (HW3.out.trans' hG (fun i hi h => h.elim (fun h => by have := HSa.out i h; omega) (fun h => by have := HX.out.1; omega)))
        clear hV hS1 hR hG hs1w
        rcases Nat.lt_or_ge k n with hlt | hge
        · obtain ⟨b, off, Ab, cb, rfl, hcb, hCw, h0w, h1w, h2w⟩ := items_at HC.out hlt
          have HK := Lib.hid (item_K hcb hCw)
          have HSU := Lib.hid (goodI_succ (L := L) (k := k) (by rw [HLn.out]; exact hlt))
          have HRS := Lib.hid (runI_succ (L := L) (k := k) (by rw [HLn.out]; exact hlt))
          have HRT := Lib.hid (runI_take HO.out k (by rw [HLn.out]; omega))
          have HGD := Lib.hid (HO.out _ (itx_mem (i := k) (by rw [HLn.out]; exact hlt)))
          have hgl := goodI_len (L.take k)
          rw [List.length_take] at hgl
          have HGL := Lib.hid hgl
          have hA0 : 0 < (itx L k).2.length → ∀ ad, Ab = some ad → ¬ S1 ad.block := fun hp ad ha hs => by
            obtain ⟨b1, o1, ha1, h3, _⟩ := cmds_at hCw hp
            rw [ha] at ha1
            cases ha1
            have h4 := World.block_lt_of_cell? w _ h3
            have h5 := HS1W.out _ hs
            simp only at h4 h5
            omega
          have HA0 := Lib.hid hA0
          have HCb := Lib.hid (Kd.C_below hCw (HWr.out.drew.below (fun _ _ h => h)))
          have HVd := Lib.hid (HV.out.fr (Fr.refl (fun _ => False) wr).drew (fun _ _ h => h))
          obtain ⟨St, hSt⟩ : ∃ St : World → Prop, St = Fr S1 wr := ⟨_, rfl⟩
          have HT := Lib.hid (show ∀ w', Fr S1 wr w' → At St w' from fun w' h => by unfold At; rw [hSt]; exact h)
          have hbn : ∀ x, w.cell? ⟨b, x, none⟩ ≠ none → ¬ S1 b := fun x hx hs => by
            cases hq : w.cell? ⟨b, x, none⟩ with
            | none => exact hx hq
            | some v =>
              have h2 := World.block_lt_of_cell? w _ hq
              have h5 := HS1W.out _ hs
              simp only at h2
              omega
          have lift : ∀ (x : Nat) (u : Value), w.cell? ⟨b, x, none⟩ = some u → ∀ w', At St w' → w'.cell? ⟨b, x, none⟩ = some u := fun x u hq w' h => by replace h := h.out; rw [hSt] at h; exact h.cell (HWr.out.cell hq (fun h => h)) (hbn x (by rw [hq]; simp))
          have l0 := lift _ _ h0w
          have l1 := lift _ _ h1w
          have l2 := lift _ _ h2w
          have hT0 := HT.out wr.drew (Fr.refl _ _).drew
          clear hbn lift hSt h0w h1w h2w hCw hA0 hgl
          by_cases he : errBat (itx L k).2 = 0
          · have HE := Lib.hid he
            have hb9 := errBat_len he
            have HB9 := Lib.hid hb9
            clear he hb9
            go_wp2_with fail
            refine rt_start [] (At St) 17 (by kernel_rfl) rfl ?_
            refine rt_free 0 (v := ?_) rfl (by kernel_rfl) (by kernel_rfl) (by kernel_rfl) (by kernel_rfl) (fun _ _ _ h => h) (by rfl) (fun _ => by first | assumption | exact HS0 _ rfl | exact HT.out _ (by repeat (first | exact Fr.refl _ _ | apply Fr.drew | refine Fr.alloc ?_ _))) ?_ ?_
            rotate_left 1
            · intro w; go_simp <;> with_reducible rfl
            try simp only [Act.put, List.setIfInBounds_toArray, List.set_cons_zero, List.set_cons_succ]
            refine rt_free 1 (v := ?_) rfl (by kernel_rfl) (by kernel_rfl) (by kernel_rfl) (by kernel_rfl) (fun _ _ _ h => h) (by rfl) (fun _ => by first | assumption | exact HS0 _ rfl | exact HT.out _ (by repeat (first | exact Fr.refl _ _ | apply Fr.drew | refine Fr.alloc ?_ _))) ?_ ?_
            rotate_left 1
            · intro w; go_simp <;> with_reducible rfl
            try simp only [Act.put, List.setIfInBounds_toArray, List.set_cons_zero, List.set_cons_succ]
            refine rt_free 2 (v := ?_) rfl (by kernel_rfl) (by kernel_rfl) (by kernel_rfl) (by kernel_rfl) (fun _ _ _ h => h) (by rfl) (fun _ => by first | assumption | exact HS0 _ rfl | exact HT.out _ (by repeat (first | exact Fr.refl _ _ | apply Fr.drew | refine Fr.alloc ?_ _))) ?_ ?_
            rotate_left 1
            · intro w; go_simp <;> with_reducible rfl
            try simp only [Act.put, List.setIfInBounds_toArray, List.set_cons_zero, List.set_cons_succ]
            refine rt_free 3 (v := ?_) rfl (by kernel_rfl) (by kernel_rfl) (by kernel_rfl) (by kernel_rfl) (fun _ _ _ h => h) (by rfl) (fun _ => by first | assumption | exact HS0 _ rfl | exact HT.out _ (by repeat (first | exact Fr.refl _ _ | apply Fr.drew | refine Fr.alloc ?_ _))) ?_ ?_
            rotate_left 1
            · intro w; go_simp <;> with_reducible rfl
            try simp only [Act.put, List.setIfInBounds_toArray, List.set_cons_zero, List.set_cons_succ]
            refine rt_free 4 (v := ?_) rfl (by kernel_rfl) (by kernel_rfl) (by kernel_rfl) (by kernel_rfl) (fun _ _ _ h => h) (by rfl) (fun _ => by first | assumption | exact HS0 _ rfl | exact HT.out _ (by repeat (first | exact Fr.refl _ _ | apply Fr.drew | refine Fr.alloc ?_ _))) ?_ ?_
            rotate_left 1
            · intro w; go_simp <;> with_reducible rfl
            try simp only [Act.put, List.setIfInBounds_toArray, List.set_cons_zero, List.set_cons_succ]
            refine rt_take 5 (v := ?_) rfl (by kernel_rfl) (by kernel_rfl) (by kernel_rfl) (by kernel_rfl) (fun _ _ _ h => h) (by rfl) (by first | assumption | exact HS0 _ rfl | exact HT.out _ (by repeat (first | exact Fr.refl _ _ | apply Fr.drew | refine Fr.alloc ?_ _))) ?_ ?_
            rotate_left 1
            · intro w hSw; go_simp <;> with_reducible rfl
            try simp only [Act.put, List.setIfInBounds_toArray, List.set_cons_zero, List.set_cons_succ]
            refine rt_free 6 (v := ?_) rfl (by kernel_rfl) (by kernel_rfl) (by kernel_rfl) (by kernel_rfl) (fun _ _ _ h => h) (by rfl) (fun _ => by first | assumption | exact HS0 _ rfl | exact HT.out _ (by repeat (first | exact Fr.refl _ _ | apply Fr.drew | refine Fr.alloc ?_ _))) ?_ ?_
            rotate_left 1
            · intro w; go_simp <;> with_reducible rfl
            try simp only [Act.put, List.setIfInBounds_toArray, List.set_cons_zero, List.set_cons_succ]
            refine rt_free 7 (v := ?_) rfl (by kernel_rfl) (by kernel_rfl) (by kernel_rfl) (by kernel_rfl) (fun _ _ _ h => h) (by rfl) (fun _ => by first | assumption | exact HS0 _ rfl | exact HT.out _ (by repeat (first | exact Fr.refl _ _ | apply Fr.drew | refine Fr.alloc ?_ _))) ?_ ?_
            rotate_left 1
            · intro w; go_simp <;> with_reducible rfl
            try simp only [Act.put, List.setIfInBounds_toArray, List.set_cons_zero, List.set_cons_succ]
            refine rt_free 8 (v := ?_) rfl (by kernel_rfl) (by kernel_rfl) (by kernel_rfl) (by kernel_rfl) (fun _ _ _ h => h) (by rfl) (fun _ => by first | assumption | exact HS0 _ rfl | exact HT.out _ (by repeat (first | exact Fr.refl _ _ | apply Fr.drew | refine Fr.alloc ?_ _))) ?_ ?_
            rotate_left 1
            · intro w; go_simp <;> with_reducible rfl
            try simp only [Act.put, List.setIfInBounds_toArray, List.set_cons_zero, List.set_cons_succ]
            refine rt_free 9 (v := ?_) rfl (by kernel_rfl) (by kernel_rfl) (by kernel_rfl) (by kernel_rfl) (fun _ _ _ h => h) (by rfl) (fun _ => by first | assumption | exact HS0 _ rfl | exact HT.out _ (by repeat (first | exact Fr.refl _ _ | apply Fr.drew | refine Fr.alloc ?_ _))) ?_ ?_
            rotate_left 1
            · intro w; go_simp <;> with_reducible rfl
            try simp only [Act.put, List.setIfInBounds_toArray, List.set_cons_zero, List.set_cons_succ]
            refine rt_take 10 (v := ?_) rfl (by kernel_rfl) (by kernel_rfl) (by kernel_rfl) (by kernel_rfl) (fun _ _ _ h => h) (by rfl) (by first | assumption | exact HS0 _ rfl | exact HT.out _ (by repeat (first | exact Fr.refl _ _ | apply Fr.drew | refine Fr.alloc ?_ _))) ?_ ?_
            rotate_left 1
            · intro w hSw; go_simp <;> with_reducible rfl
            try simp only [Act.put, List.setIfInBounds_toArray, List.set_cons_zero, List.set_cons_succ]
            refine rt_one 11 rfl (by kernel_rfl) (fun K hK => ?_)
            go_simp
            refine (vault_apply (itx L k).1 Ab (itx L k).2.length cb (itx L k).2 g m S1 (runI (L.take k)).1 _ HVd.out HCb.out HA0.out HGD.out HRT.out.1 (by omega) (by have := HRT.out.2.1; omega)).mono ?_
            rintro r W2 hres
            obtain ⟨v, S2, rfl, hV2, hS2, hF2⟩ := hres.yes HE.out
            have HFr := Lib.hid ((Fr.refl S1 wr).drew.trans hF2)
            have hT2 := HT.out _ HFr.out
            have HV2 := Lib.hid hV2
            have HS2 := Lib.hid hS2
            clear hres hV2 hS2 hF2
            go_wp2_with fail
            refine hK.out (At St) _ _ (fun _ h => h) (fun _ => by (assumption)) ?_
            clear hK K
            try simp only [Act.put, List.setIfInBounds_toArray, List.set_cons_zero, List.set_cons_succ]
            refine rt_free 12 (v := ?_) rfl (by kernel_rfl) (by kernel_rfl) (by kernel_rfl) (by kernel_rfl) (fun _ _ _ h => h) (by rfl) (fun _ => by first | assumption | exact HS0 _ rfl | exact HT.out _ (by repeat (first | exact Fr.refl _ _ | apply Fr.drew | refine Fr.alloc ?_ _))) ?_ ?_
            rotate_left 1
            · intro w; go_simp <;> with_reducible rfl
            try simp only [Act.put, List.setIfInBounds_toArray, List.set_cons_zero, List.set_cons_succ]
            refine rt_free 13 (v := ?_) rfl (by kernel_rfl) (by kernel_rfl) (by kernel_rfl) (by kernel_rfl) (fun _ _ _ h => h) (by rfl) (fun _ => by first | assumption | exact HS0 _ rfl | exact HT.out _ (by repeat (first | exact Fr.refl _ _ | apply Fr.drew | refine Fr.alloc ?_ _))) ?_ ?_
            rotate_left 1
            · intro w; go_simp <;> with_reducible rfl
            try simp only [Act.put, List.setIfInBounds_toArray, List.set_cons_zero, List.set_cons_succ]
            refine rt_free 14 (v := ?_) rfl (by kernel_rfl) (by kernel_rfl) (by kernel_rfl) (by kernel_rfl) (fun _ _ _ h => h) (by rfl) (fun _ => by first | assumption | exact HS0 _ rfl | exact HT.out _ (by repeat (first | exact Fr.refl _ _ | apply Fr.drew | refine Fr.alloc ?_ _))) ?_ ?_
            rotate_left 1
            · intro w; go_simp <;> with_reducible rfl
            try simp only [Act.put, List.setIfInBounds_toArray, List.set_cons_zero, List.set_cons_succ]
            refine rt_free 15 (v := ?_) rfl (by kernel_rfl) (by kernel_rfl) (by kernel_rfl) (by kernel_rfl) (fun _ _ _ h => h) (by rfl) (fun _ => by first | assumption | exact HS0 _ rfl | exact HT.out _ (by repeat (first | exact Fr.refl _ _ | apply Fr.drew | refine Fr.alloc ?_ _))) ?_ ?_
            rotate_left 1
            · intro w; go_simp <;> with_reducible rfl
            try simp only [Act.put, List.setIfInBounds_toArray, List.set_cons_zero, List.set_cons_succ]
            refine rt_free 16 (v := ?_) rfl (by kernel_rfl) (by kernel_rfl) (by kernel_rfl) (by kernel_rfl) (fun _ _ _ h => h) (by rfl) (fun _ => by first | assumption | exact HS0 _ rfl | exact HT.out _ (by repeat (first | exact Fr.refl _ _ | apply Fr.drew | refine Fr.alloc ?_ _))) ?_ ?_
            rotate_left 1
            · intro w; go_simp <;> with_reducible rfl
            try simp only [Act.put, List.setIfInBounds_toArray, List.set_cons_zero, List.set_cons_succ]
            refine rt_done (by kernel_rfl) ?_
            have a0 := l0 W2 (HT.out _ HFr.out)
            have a1 := l1 W2 (HT.out _ HFr.out)
            have a2 := l2 W2 (HT.out _ HFr.out)
            have HR2 := Lib.hid (row_apply HR.out (show ∀ b, S2 b → S1 b ∨ wr.heap.size ≤ b from HS2.out) HFr.out)
            have hGr : Fr (fun b => S b ∨ b = x) W3 W2 := HG.out.trans' HFr.out (fun i hi h => (HS1.out i h).elim .inl (fun h => absurd h (by omega)))
            have HG2 := Lib.hid hGr
            have HW2 := Lib.hid (show w.heap.size ≤ W2.heap.size from Nat.le_trans HWr.out.size HFr.out.size)
            have HWW := Lib.hid (show W3.heap.size ≤ W2.heap.size from hGr.size)
            have hst : stepI (runI (L.take k)) (itx L k) = ((runI (L.take k)).1 ++ tagN (itx L k).1 (itx L k).2 (itx L k).2.length, (runI (L.take k)).2 ++ toldN (runI (L.take k)).1 (itx L k).1 (itx L k).2 (itx L k).2.length) := if_pos HE.out
            have HST := Lib.hid hst
            have hsu := HSU.out
            rw [if_pos HE.out] at hsu
            have HSU2 := Lib.hid hsu
            clear hst hsu l0 l1 l2 hT0 hT2 hGr
            go_wp2_with (at_builtin; refine Kd.R_append (itF w) w.heap.size rfl (.tmp 54) (.tmp 59) 22 34 _ 40 rfl Try.underlying22 info_it2 rfl (show 0 < itemK.sz by decide) (by decide) u7 (goodI (L.take k)) (itx L k) (itemCells (itx L k) Ab cb) (fun b => ¬ S2 b ∧ (b = x ∨ W3.heap.size ≤ b)) (fun _ => False) (by rfl) (by rfl) HK.out (fun _ h => h.elim) (fun b hb => ⟨fun h => absurd (HV2.out.lt b h) (by omega), .inr (Nat.le_trans HWW.out hb)⟩) HR2.out (Below.refl _ _) HW2.out (by have := HGL.out; omega) ?_; intro v1 W3 hR1 hB1 hg1 hat1; have HR3 := Lib.hid hR1; have HG3 := Lib.hid hg1; clear hR1 hB1 hg1 hat1)
            go_roundw
            case rel =>
              refine ⟨k + 1, by omega, by go_num, S2, m + 1, by omega, ?_, ?_, ?_, ?_⟩
              · rw [HRS.out, HST.out]
                exact HV2.out.fr (Fr.of_grown HG3.out) (fun b hb h => (HR2.out.1 b h.symm).1 hb)
              · exact fun b hb => (HS2.out b hb).elim (HS1.out b) (fun h => .inr (Nat.le_trans HG.out.size h))
              · rw [HSU2.out]; exact HR3.out
              · exact HG2.out.trans' (Fr.of_grown HG3.out) (fun i hi h => (HR2.out.1 i h.symm).2.elim .inr (fun h => absurd h (by omega)))
            case measure => simp [intOf]; omega
          · have HE := Lib.hid he
            have tne : (errBat (itx L k).2 == 0) = false := by simpa using he
            clear he
            go_wp2_with fail
            refine rt_start [] (At St) 17 (by kernel_rfl) rfl ?_
            refine rt_free 0 (v := ?_) rfl (by kernel_rfl) (by kernel_rfl) (by kernel_rfl) (by kernel_rfl) (fun _ _ _ h => h) (by rfl) (fun _ => by first | assumption | exact HS0 _ rfl | exact HT.out _ (by repeat (first | exact Fr.refl _ _ | apply Fr.drew | refine Fr.alloc ?_ _))) ?_ ?_
            rotate_left 1
            · intro w; go_simp <;> with_reducible rfl
            try simp only [Act.put, List.setIfInBounds_toArray, List.set_cons_zero, List.set_cons_succ]
            refine rt_free 1 (v := ?_) rfl (by kernel_rfl) (by kernel_rfl) (by kernel_rfl) (by kernel_rfl) (fun _ _ _ h => h) (by rfl) (fun _ => by first | assumption | exact HS0 _ rfl | exact HT.out _ (by repeat (first | exact Fr.refl _ _ | apply Fr.drew | refine Fr.alloc ?_ _))) ?_ ?_
            rotate_left 1
            · intro w; go_simp <;> with_reducible rfl
            try simp only [Act.put, List.setIfInBounds_toArray, List.set_cons_zero, List.set_cons_succ]
            refine rt_free 2 (v := ?_) rfl (by kernel_rfl) (by kernel_rfl) (by kernel_rfl) (by kernel_rfl) (fun _ _ _ h => h) (by rfl) (fun _ => by first | assumption | exact HS0 _ rfl | exact HT.out _ (by repeat (first | exact Fr.refl _ _ | apply Fr.drew | refine Fr.alloc ?_ _))) ?_ ?_
            rotate_left 1
            · intro w; go_simp <;> with_reducible rfl
            try simp only [Act.put, List.setIfInBounds_toArray, List.set_cons_zero, List.set_cons_succ]
            refine rt_free 3 (v := ?_) rfl (by kernel_rfl) (by kernel_rfl) (by kernel_rfl) (by kernel_rfl) (fun _ _ _ h => h) (by rfl) (fun _ => by first | assumption | exact HS0 _ rfl | exact HT.out _ (by repeat (first | exact Fr.refl _ _ | apply Fr.drew | refine Fr.alloc ?_ _))) ?_ ?_
            rotate_left 1
            · intro w; go_simp <;> with_reducible rfl
            try simp only [Act.put, List.setIfInBounds_toArray, List.set_cons_zero, List.set_cons_succ]
            refine rt_free 4 (v := ?_) rfl (by kernel_rfl) (by kernel_rfl) (by kernel_rfl) (by kernel_rfl) (fun _ _ _ h => h) (by rfl) (fun _ => by first | assumption | exact HS0 _ rfl | exact HT.out _ (by repeat (first | exact Fr.refl _ _ | apply Fr.drew | refine Fr.alloc ?_ _))) ?_ ?_
            rotate_left 1
            · intro w; go_simp <;> with_reducible rfl
            try simp only [Act.put, List.setIfInBounds_toArray, List.set_cons_zero, List.set_cons_succ]
            refine rt_take 5 (v := ?_) rfl (by kernel_rfl) (by kernel_rfl) (by kernel_rfl) (by kernel_rfl) (fun _ _ _ h => h) (by rfl) (by first | assumption | exact HS0 _ rfl | exact HT.out _ (by repeat (first | exact Fr.refl _ _ | apply Fr.drew | refine Fr.alloc ?_ _))) ?_ ?_
            rotate_left 1
            · intro w hSw; go_simp <;> with_reducible rfl
            try simp only [Act.put, List.setIfInBounds_toArray, List.set_cons_zero, List.set_cons_succ]
            refine rt_free 6 (v := ?_) rfl (by kernel_rfl) (by kernel_rfl) (by kernel_rfl) (by kernel_rfl) (fun _ _ _ h => h) (by rfl) (fun _ => by first | assumption | exact HS0 _ rfl | exact HT.out _ (by repeat (first | exact Fr.refl _ _ | apply Fr.drew | refine Fr.alloc ?_ _))) ?_ ?_
            rotate_left 1
            · intro w; go_simp <;> with_reducible rfl
            try simp only [Act.put, List.setIfInBounds_toArray, List.set_cons_zero, List.set_cons_succ]
            refine rt_free 7 (v := ?_) rfl (by kernel_rfl) (by kernel_rfl) (by kernel_rfl) (by kernel_rfl) (fun _ _ _ h => h) (by rfl) (fun _ => by first | assumption | exact HS0 _ rfl | exact HT.out _ (by repeat (first | exact Fr.refl _ _ | apply Fr.drew | refine Fr.alloc ?_ _))) ?_ ?_
            rotate_left 1
            · intro w; go_simp <;> with_reducible rfl
            try simp only [Act.put, List.setIfInBounds_toArray, List.set_cons_zero, List.set_cons_succ]
            refine rt_free 8 (v := ?_) rfl (by kernel_rfl) (by kernel_rfl) (by kernel_rfl) (by kernel_rfl) (fun _ _ _ h => h) (by rfl) (fun _ => by first | assumption | exact HS0 _ rfl | exact HT.out _ (by repeat (first | exact Fr.refl _ _ | apply Fr.drew | refine Fr.alloc ?_ _))) ?_ ?_
            rotate_left 1
            · intro w; go_simp <;> with_reducible rfl
            try simp only [Act.put, List.setIfInBounds_toArray, List.set_cons_zero, List.set_cons_succ]
            refine rt_free 9 (v := ?_) rfl (by kernel_rfl) (by kernel_rfl) (by kernel_rfl) (by kernel_rfl) (fun _ _ _ h => h) (by rfl) (fun _ => by first | assumption | exact HS0 _ rfl | exact HT.out _ (by repeat (first | exact Fr.refl _ _ | apply Fr.drew | refine Fr.alloc ?_ _))) ?_ ?_
            rotate_left 1
            · intro w; go_simp <;> with_reducible rfl
            try simp only [Act.put, List.setIfInBounds_toArray, List.set_cons_zero, List.set_cons_succ]
            refine rt_take 10 (v := ?_) rfl (by kernel_rfl) (by kernel_rfl) (by kernel_rfl) (by kernel_rfl) (fun _ _ _ h => h) (by rfl) (by first | assumption | exact HS0 _ rfl | exact HT.out _ (by repeat (first | exact Fr.refl _ _ | apply Fr.drew | refine Fr.alloc ?_ _))) ?_ ?_
            rotate_left 1
            · intro w hSw; go_simp <;> with_reducible rfl
            try simp only [Act.put, List.setIfInBounds_toArray, List.set_cons_zero, List.set_cons_succ]
            refine rt_one 11 rfl (by kernel_rfl) (fun K hK => ?_)
            go_simp
            refine (vault_apply (itx L k).1 Ab (itx L k).2.length cb (itx L k).2 g m S1 (runI (L.take k)).1 _ HVd.out HCb.out HA0.out HGD.out HRT.out.1 (by omega) (by have := HRT.out.2.1; omega)).mono ?_
            rintro r W2 hres
            obtain ⟨rfl, hF2⟩ := hres.no HE.out
            have HFr := Lib.hid ((Fr.refl (fun _ => False) wr).drew.trans hF2)
            have hT2 := HT.out _ ((Fr.refl S1 wr).trans' HFr.out (fun i hi h => h.elim))
            clear hres hF2
            go_wp2_with fail
            refine hK.out (At St) _ _ (fun _ h => h) (fun _ => by (assumption)) ?_
            clear hK K
            try simp only [Act.put, List.setIfInBounds_toArray, List.set_cons_zero, List.set_cons_succ]
            refine rt_free 12 (v := ?_) rfl (by kernel_rfl) (by kernel_rfl) (by kernel_rfl) (by kernel_rfl) (fun _ _ _ h => h) (by rfl) (fun _ => by first | assumption | exact HS0 _ rfl | exact HT.out _ (by repeat (first | exact Fr.refl _ _ | apply Fr.drew | refine Fr.alloc ?_ _))) ?_ ?_
            rotate_left 1
            · intro w; go_simp <;> with_reducible rfl
            try simp only [Act.put, List.setIfInBounds_toArray, List.set_cons_zero, List.set_cons_succ]
            refine rt_free 13 (v := ?_) rfl (by kernel_rfl) (by kernel_rfl) (by kernel_rfl) (by kernel_rfl) (fun _ _ _ h => h) (by rfl) (fun _ => by first | assumption | exact HS0 _ rfl | exact HT.out _ (by repeat (first | exact Fr.refl _ _ | apply Fr.drew | refine Fr.alloc ?_ _))) ?_ ?_
            rotate_left 1
            · intro w; go_simp <;> with_reducible rfl
            try simp only [Act.put, List.setIfInBounds_toArray, List.set_cons_zero, List.set_cons_succ]
            refine rt_free 14 (v := ?_) rfl (by kernel_rfl) (by kernel_rfl) (by kernel_rfl) (by kernel_rfl) (fun _ _ _ h => h) (by rfl) (fun _ => by first | assumption | exact HS0 _ rfl | exact HT.out _ (by repeat (first | exact Fr.refl _ _ | apply Fr.drew | refine Fr.alloc ?_ _))) ?_ ?_
            rotate_left 1
            · intro w; go_simp <;> with_reducible rfl
            try simp only [Act.put, List.setIfInBounds_toArray, List.set_cons_zero, List.set_cons_succ]
            refine rt_free 15 (v := ?_) rfl (by kernel_rfl) (by kernel_rfl) (by kernel_rfl) (by kernel_rfl) (fun _ _ _ h => h) (by rfl) (fun _ => by first | assumption | exact HS0 _ rfl | exact HT.out _ (by repeat (first | exact Fr.refl _ _ | apply Fr.drew | refine Fr.alloc ?_ _))) ?_ ?_
            rotate_left 1
            · intro w; go_simp <;> with_reducible rfl
            try simp only [Act.put, List.setIfInBounds_toArray, List.set_cons_zero, List.set_cons_succ]
            refine rt_free 16 (v := ?_) rfl (by kernel_rfl) (by kernel_rfl) (by kernel_rfl) (by kernel_rfl) (fun _ _ _ h => h) (by rfl) (fun _ => by first | assumption | exact HS0 _ rfl | exact HT.out _ (by repeat (first | exact Fr.refl _ _ | apply Fr.drew | refine Fr.alloc ?_ _))) ?_ ?_
            rotate_left 1
            · intro w; go_simp <;> with_reducible rfl
            try simp only [Act.put, List.setIfInBounds_toArray, List.set_cons_zero, List.set_cons_succ]
            refine rt_done (by kernel_rfl) ?_
            have hst : stepI (runI (L.take k)) (itx L k) = runI (L.take k) := if_neg HE.out
            have HST := Lib.hid hst
            have hsu := HSU.out
            rw [if_neg HE.out, List.append_nil] at hsu
            have HSU2 := Lib.hid hsu
            clear hst hsu l0 l1 l2 hT0 hT2
            go_wp2_with fail
            go_roundw
            case rel =>
              refine ⟨k + 1, by omega, by go_num, S1, m, by omega, ?_, HS1.out, ?_, HG.out.trans' HFr.out (fun i hi h => h.elim)⟩
              · rw [HRS.out, HST.out]
                exact HV.out.fr HFr.out (fun _ _ h => h)
              · rw [HSU2.out]
                exact Kd.R_below HR.out (HFr.out.below (fun _ _ h => h))
            case measure => simp [intOf]; omega
        · obtain rfl : n = k := by omega
          have tnn : decide (n < n) = false := decide_eq_false (by omega)
          have hlL : L.take n = L := by rw [← HLn.out]; exact List.take_length
          have hV4 := HV.out
          have hR4 := HR.out
          rw [hlL] at hV4 hR4
          have HV4 := Lib.hid hV4
          have HR4 := Lib.hid hR4
          have HSa4 := Lib.hid HS1.out
          have HVb4 := Lib.hid (HVb.out.fr HG.out (fun b hb h => by
            have h1 := HSS.out b hb
            rcases h with h | h
            · have h2 := HSa2.out b h; omega
            · have h3 := HX.out; omega))
          have HRb4 := Lib.hid (Kd.R_step HRb.out (fun b hb hl => HG.out.block b hl (fun h => by
            rcases h with h | h
            · have h2 := HSa2.out b h; have h3 := HX.out; omega
            · omega)))
          have HW4 := HWr
          have HG4 := HG
          have hx4 : w.heap.size ≤ x + 1 ∧ x + 1 < wr.heap.size := by have h1 := HX.out; have h2 := HG.out.size; omega
          have HX4 := Lib.hid hx4
          have HNX4 := Lib.hid (show ¬ S' (x + 1) from fun h => by have h1 := HSS.out _ h; have h2 := HX.out; omega)
          have hs1a : ∀ b, S1 b → b < x ∨ x + 2 ≤ b := fun b hb => by
            rcases HSa4.out b hb with h | h
            · have h2 := HSa2.out b h; have h3 := HX.out; omega
            · have h3 := HX.out; omega
          have HS1A := Lib.hid (show ∀ b, S1 b → ¬ S' b ∧ b ≠ x + 1 ∧ w.heap.size ≤ b from fun b hb => by
            rcases HSa4.out b hb with h | h
            · have h2 := HSa2.out b h
              have h3 := HX.out
              exact ⟨fun hs => by have h1 := HSS.out b hs; omega, by omega, HSa.out b h⟩
            · have h3 := HX.out
              exact ⟨fun hs => by have h1 := HSS.out b hs; omega, by omega, by omega⟩)
          obtain ⟨W4, hW4⟩ : ∃ W, W = wr := ⟨_, rfl⟩
          subst hW4
          have HLT4 := Lib.hid (show ∀ b, S1 b → b < W4.heap.size from HV4.out.lt)
          clear hV4 hR4 hx4 hs1a HV HR HG HWr HS1 tnn hlL
          go_wp2_with fail
          go_loopw [8, 12] (fun u i wr => ∃ k : Nat, k ≤ n' ∧ i = .int .i64 k ∧ VRow w W4 wr S' (x + 1) g' M k u) (fun _ i _ => n' - (intOf i).toNat)
          case atStart => exact ⟨0, Nat.zero_le _, rfl, VRow.start M HVb4.out HNX4.out HRb4.out⟩
          case round =>
            obtain ⟨k, hk, rfl, S1, m, hm, hV, hS1, hR, hG⟩ := hrel
            have HV := Lib.hid hV
            have HS1 := Lib.hid hS1
            have HR := Lib.hid hR
            have HG := Lib.hid hG
            have hs1w : ∀ b, S1 b → w.heap.size ≤ b := fun b hb => (hS1 b hb).elim (HSb.out b) (fun h => Nat.le_trans HW4.out.size h)
            have HS1W := Lib.hid hs1w
            have HWr := Lib.hid (HW4.out.trans' hG (fun i hi h => h.elim (fun h => by have := HSb.out i h; omega) (fun h => by have := HX4.out.1; omega)))
            clear hV hS1 hR hG hs1w
            rcases Nat.lt_or_ge k n' with hlt | hge
            · obtain ⟨b, off, Ab, cb, rfl, hcb, hCw, h0w, h1w, h2w⟩ := items_at HC'.out hlt
              have HK := Lib.hid (item_K hcb hCw)
              have HSU := Lib.hid (goodI_succ (L := M) (k := k) (by rw [HLn'.out]; exact hlt))
              have HRS := Lib.hid (runI_succ (L := M) (k := k) (by rw [HLn'.out]; exact hlt))
              have HRT := Lib.hid (runI_take HO'.out k (by rw [HLn'.out]; omega))
              have HGD := Lib.hid (HO'.out _ (itx_mem (i := k) (by rw [HLn'.out]; exact hlt)))
              have hgl := goodI_len (M.take k)
              rw [List.length_take] at hgl
              have HGL := Lib.hid hgl
              have hA0 : 0 < (itx M k).2.length → ∀ ad, Ab = some ad → ¬ S1 ad.block := fun hp ad ha hs => by
                obtain ⟨b1, o1, ha1, h3, _⟩ := cmds_at hCw hp
                rw [ha] at ha1
                cases ha1
                have h4 := World.block_lt_of_cell? w _ h3
                have h5 := HS1W.out _ hs
                simp only at h4 h5
                omega
              have HA0 := Lib.hid hA0
              have HCb := Lib.hid (Kd.C_below hCw (HWr.out.drew.below (fun _ _ h => h)))
              have HVd := Lib.hid (HV.out.fr (Fr.refl (fun _ => False) wr).drew (fun _ _ h => h))
              obtain ⟨St, hSt⟩ : ∃ St : World → Prop, St = Fr S1 wr := ⟨_, rfl⟩
              have HT := Lib.hid (show ∀ w', Fr S1 wr w' → At St w' from fun w' h => by unfold At; rw [hSt]; exact h)
              have hbn : ∀ x, w.cell? ⟨b, x, none⟩ ≠ none → ¬ S1 b := fun x hx hs => by
                cases hq : w.cell? ⟨b, x, none⟩ with
                | none => exact hx hq
                | some v =>
                  have h2 := World.block_lt_of_cell? w _ hq
                  have h5 := HS1W.out _ hs
                  simp only at h2
                  omega
              have lift : ∀ (x : Nat) (u : Value), w.cell? ⟨b, x, none⟩ = some u → ∀ w', At St w' → w'.cell? ⟨b, x, none⟩ = some u := fun x u hq w' h => by replace h := h.out; rw [hSt] at h; exact h.cell (HWr.out.cell hq (fun h => h)) (hbn x (by rw [hq]; simp))
              have l0 := lift _ _ h0w
              have l1 := lift _ _ h1w
              have l2 := lift _ _ h2w
              have hT0 := HT.out wr.drew (Fr.refl _ _).drew
              clear hbn lift hSt h0w h1w h2w hCw hA0 hgl
              by_cases he : errBat (itx M k).2 = 0
              · have HE := Lib.hid he
                have hb9 := errBat_len he
                have HB9 := Lib.hid hb9
                clear he hb9
                go_wp2_with fail
                refine rt_start [] (At St) 17 (by kernel_rfl) rfl ?_
                refine rt_free 0 (v := ?_) rfl (by kernel_rfl) (by kernel_rfl) (by kernel_rfl) (by kernel_rfl) (fun _ _ _ h => h) (by rfl) (fun _ => by first | assumption | exact HS0 _ rfl | exact HT.out _ (by repeat (first | exact Fr.refl _ _ | apply Fr.drew | refine Fr.alloc ?_ _))) ?_ ?_
                rotate_left 1
                · intro w; go_simp <;> with_reducible rfl
                try simp only [Act.put, List.setIfInBounds_toArray, List.set_cons_zero, List.set_cons_succ]
                refine rt_free 1 (v := ?_) rfl (by kernel_rfl) (by kernel_rfl) (by kernel_rfl) (by kernel_rfl) (fun _ _ _ h => h) (by rfl) (fun _ => by first | assumption | exact HS0 _ rfl | exact HT.out _ (by repeat (first | exact Fr.refl _ _ | apply Fr.drew | refine Fr.alloc ?_ _))) ?_ ?_
                rotate_left 1
                · intro w; go_simp <;> with_reducible rfl
                try simp only [Act.put, List.setIfInBounds_toArray, List.set_cons_zero, List.set_cons_succ]
                refine rt_free 2 (v := ?_) rfl (by kernel_rfl) (by kernel_rfl) (by kernel_rfl) (by kernel_rfl) (fun _ _ _ h => h) (by rfl) (fun _ => by first | assumption | exact HS0 _ rfl | exact HT.out _ (by repeat (first | exact Fr.refl _ _ | apply Fr.drew | refine Fr.alloc ?_ _))) ?_ ?_
                rotate_left 1
                · intro w; go_simp <;> with_reducible rfl
                try simp only [Act.put, List.setIfInBounds_toArray, List.set_cons_zero, List.set_cons_succ]
                refine rt_free 3 (v := ?_) rfl (by kernel_rfl) (by kernel_rfl) (by kernel_rfl) (by kernel_rfl) (fun _ _ _ h => h) (by rfl) (fun _ => by first | assumption | exact HS0 _ rfl | exact HT.out _ (by repeat (first | exact Fr.refl _ _ | apply Fr.drew | refine Fr.alloc ?_ _))) ?_ ?_
                rotate_left 1
                · intro w; go_simp <;> with_reducible rfl
                try simp only [Act.put, List.setIfInBounds_toArray, List.set_cons_zero, List.set_cons_succ]
                refine rt_free 4 (v := ?_) rfl (by kernel_rfl) (by kernel_rfl) (by kernel_rfl) (by kernel_rfl) (fun _ _ _ h => h) (by rfl) (fun _ => by first | assumption | exact HS0 _ rfl | exact HT.out _ (by repeat (first | exact Fr.refl _ _ | apply Fr.drew | refine Fr.alloc ?_ _))) ?_ ?_
                rotate_left 1
                · intro w; go_simp <;> with_reducible rfl
                try simp only [Act.put, List.setIfInBounds_toArray, List.set_cons_zero, List.set_cons_succ]
                refine rt_take 5 (v := ?_) rfl (by kernel_rfl) (by kernel_rfl) (by kernel_rfl) (by kernel_rfl) (fun _ _ _ h => h) (by rfl) (by first | assumption | exact HS0 _ rfl | exact HT.out _ (by repeat (first | exact Fr.refl _ _ | apply Fr.drew | refine Fr.alloc ?_ _))) ?_ ?_
                rotate_left 1
                · intro w hSw; go_simp <;> with_reducible rfl
                try simp only [Act.put, List.setIfInBounds_toArray, List.set_cons_zero, List.set_cons_succ]
                refine rt_free 6 (v := ?_) rfl (by kernel_rfl) (by kernel_rfl) (by kernel_rfl) (by kernel_rfl) (fun _ _ _ h => h) (by rfl) (fun _ => by first | assumption | exact HS0 _ rfl | exact HT.out _ (by repeat (first | exact Fr.refl _ _ | apply Fr.drew | refine Fr.alloc ?_ _))) ?_ ?_
                rotate_left 1
                · intro w; go_simp <;> with_reducible rfl
                try simp only [Act.put, List.setIfInBounds_toArray, List.set_cons_zero, List.set_cons_succ]
                refine rt_free 7 (v := ?_) rfl (by kernel_rfl) (by kernel_rfl) (by kernel_rfl) (by kernel_rfl) (fun _ _ _ h => h) (by rfl) (fun _ => by first | assumption | exact HS0 _ rfl | exact HT.out _ (by repeat (first | exact Fr.refl _ _ | apply Fr.drew | refine Fr.alloc ?_ _))) ?_ ?_
                rotate_left 1
                · intro w; go_simp <;> with_reducible rfl
                try simp only [Act.put, List.setIfInBounds_toArray, List.set_cons_zero, List.set_cons_succ]
                refine rt_free 8 (v := ?_) rfl (by kernel_rfl) (by kernel_rfl) (by kernel_rfl) (by kernel_rfl) (fun _ _ _ h => h) (by rfl) (fun _ => by first | assumption | exact HS0 _ rfl | exact HT.out _ (by repeat (first | exact Fr.refl _ _ | apply Fr.drew | refine Fr.alloc ?_ _))) ?_ ?_
                rotate_left 1
                · intro w; go_simp <;> with_reducible rfl
                try simp only [Act.put, List.setIfInBounds_toArray, List.set_cons_zero, List.set_cons_succ]
                refine rt_free 9 (v := ?_) rfl (by kernel_rfl) (by kernel_rfl) (by kernel_rfl) (by kernel_rfl) (fun _ _ _ h => h) (by rfl) (fun _ => by first | assumption | exact HS0 _ rfl | exact HT.out _ (by repeat (first | exact Fr.refl _ _ | apply Fr.drew | refine Fr.alloc ?_ _))) ?_ ?_
                rotate_left 1
                · intro w; go_simp <;> with_reducible rfl
                try simp only [Act.put, List.setIfInBounds_toArray, List.set_cons_zero, List.set_cons_succ]
                refine rt_take 10 (v := ?_) rfl (by kernel_rfl) (by kernel_rfl) (by kernel_rfl) (by kernel_rfl) (fun _ _ _ h => h) (by rfl) (by first | assumption | exact HS0 _ rfl | exact HT.out _ (by repeat (first | exact Fr.refl _ _ | apply Fr.drew | refine Fr.alloc ?_ _))) ?_ ?_
                rotate_left 1
                · intro w hSw; go_simp <;> with_reducible rfl
                try simp only [Act.put, List.setIfInBounds_toArray, List.set_cons_zero, List.set_cons_succ]
                refine rt_one 11 rfl (by kernel_rfl) (fun K hK => ?_)
                go_simp
                refine (vault_apply (itx M k).1 Ab (itx M k).2.length cb (itx M k).2 g' m S1 (runI (M.take k)).1 _ HVd.out HCb.out HA0.out HGD.out HRT.out.1 (by omega) (by have := HRT.out.2.1; omega)).mono ?_
                rintro r W2 hres
                obtain ⟨v, S2, rfl, hV2, hS2, hF2⟩ := hres.yes HE.out
                have HFr := Lib.hid ((Fr.refl S1 wr).drew.trans hF2)
                have hT2 := HT.out _ HFr.out
                have HV2 := Lib.hid hV2
                have HS2 := Lib.hid hS2
                clear hres hV2 hS2 hF2
                go_wp2_with fail
                refine hK.out (At St) _ _ (fun _ h => h) (fun _ => by (assumption)) ?_
                clear hK K
                try simp only [Act.put, List.setIfInBounds_toArray, List.set_cons_zero, List.set_cons_succ]
                refine rt_free 12 (v := ?_) rfl (by kernel_rfl) (by kernel_rfl) (by kernel_rfl) (by kernel_rfl) (fun _ _ _ h => h) (by rfl) (fun _ => by first | assumption | exact HS0 _ rfl | exact HT.out _ (by repeat (first | exact Fr.refl _ _ | apply Fr.drew | refine Fr.alloc ?_ _))) ?_ ?_
                rotate_left 1
                · intro w; go_simp <;> with_reducible rfl
                try simp only [Act.put, List.setIfInBounds_toArray, List.set_cons_zero, List.set_cons_succ]
                refine rt_free 13 (v := ?_) rfl (by kernel_rfl) (by kernel_rfl) (by kernel_rfl) (by kernel_rfl) (fun _ _ _ h => h) (by rfl) (fun _ => by first | assumption | exact HS0 _ rfl | exact HT.out _ (by repeat (first | exact Fr.refl _ _ | apply Fr.drew | refine Fr.alloc ?_ _))) ?_ ?_
                rotate_left 1
                · intro w; go_simp <;> with_reducible rfl
                try simp only [Act.put, List.setIfInBounds_toArray, List.set_cons_zero, List.set_cons_succ]
                refine rt_free 14 (v := ?_) rfl (by kernel_rfl) (by kernel_rfl) (by kernel_rfl) (by kernel_rfl) (fun _ _ _ h => h) (by rfl) (fun _ => by first | assumption | exact HS0 _ rfl | exact HT.out _ (by repeat (first | exact Fr.refl _ _ | apply Fr.drew | refine Fr.alloc ?_ _))) ?_ ?_
                rotate_left 1
                · intro w; go_simp <;> with_reducible rfl
                try simp only [Act.put, List.setIfInBounds_toArray, List.set_cons_zero, List.set_cons_succ]
                refine rt_free 15 (v := ?_) rfl (by kernel_rfl) (by kernel_rfl) (by kernel_rfl) (by kernel_rfl) (fun _ _ _ h => h) (by rfl) (fun _ => by first | assumption | exact HS0 _ rfl | exact HT.out _ (by repeat (first | exact Fr.refl _ _ | apply Fr.drew | refine Fr.alloc ?_ _))) ?_ ?_
                rotate_left 1
                · intro w; go_simp <;> with_reducible rfl
                try simp only [Act.put, List.setIfInBounds_toArray, List.set_cons_zero, List.set_cons_succ]
                refine rt_free 16 (v := ?_) rfl (by kernel_rfl) (by kernel_rfl) (by kernel_rfl) (by kernel_rfl) (fun _ _ _ h => h) (by rfl) (fun _ => by first | assumption | exact HS0 _ rfl | exact HT.out _ (by repeat (first | exact Fr.refl _ _ | apply Fr.drew | refine Fr.alloc ?_ _))) ?_ ?_
                rotate_left 1
                · intro w; go_simp <;> with_reducible rfl
                try simp only [Act.put, List.setIfInBounds_toArray, List.set_cons_zero, List.set_cons_succ]
                refine rt_done (by kernel_rfl) ?_
                have a0 := l0 W2 (HT.out _ HFr.out)
                have a1 := l1 W2 (HT.out _ HFr.out)
                have a2 := l2 W2 (HT.out _ HFr.out)
                have HR2 := Lib.hid (row_apply HR.out (show ∀ b, S2 b → S1 b ∨ wr.heap.size ≤ b from HS2.out) HFr.out)
                have hGr : Fr (fun b => S' b ∨ b = (x + 1)) W4 W2 := HG.out.trans' HFr.out (fun i hi h => (HS1.out i h).elim .inl (fun h => absurd h (by omega)))
                have HG2 := Lib.hid hGr
                have HW2 := Lib.hid (show w.heap.size ≤ W2.heap.size from Nat.le_trans HWr.out.size HFr.out.size)
                have HWW := Lib.hid (show W4.heap.size ≤ W2.heap.size from hGr.size)
                have hst : stepI (runI (M.take k)) (itx M k) = ((runI (M.take k)).1 ++ tagN (itx M k).1 (itx M k).2 (itx M k).2.length, (runI (M.take k)).2 ++ toldN (runI (M.take k)).1 (itx M k).1 (itx M k).2 (itx M k).2.length) := if_pos HE.out
                have HST := Lib.hid hst
                have hsu := HSU.out
                rw [if_pos HE.out] at hsu
                have HSU2 := Lib.hid hsu
                clear hst hsu l0 l1 l2 hT0 hT2 hGr
                go_wp2_with (at_builtin; refine Kd.R_append (itF w) w.heap.size rfl (.tmp 84) (.tmp 89) 22 34 _ 40 rfl Try.underlying22 info_it2 rfl (show 0 < itemK.sz by decide) (by decide) u8 (goodI (M.take k)) (itx M k) (itemCells (itx M k) Ab cb) (fun b => ¬ S2 b ∧ (b = (x + 1) ∨ W4.heap.size ≤ b)) (fun _ => False) (by rfl) (by rfl) HK.out (fun _ h => h.elim) (fun b hb => ⟨fun h => absurd (HV2.out.lt b h) (by omega), .inr (Nat.le_trans HWW.out hb)⟩) HR2.out (Below.refl _ _) HW2.out (by have := HGL.out; omega) ?_; intro v1 W3 hR1 hB1 hg1 hat1; have HR3 := Lib.hid hR1; have HG3 := Lib.hid hg1; clear hR1 hB1 hg1 hat1)
                go_roundw
                case rel =>
                  refine ⟨k + 1, by omega, by go_num, S2, m + 1, by omega, ?_, ?_, ?_, ?_⟩
                  · rw [HRS.out, HST.out]
                    exact HV2.out.fr (Fr.of_grown HG3.out) (fun b hb h => (HR2.out.1 b h.symm).1 hb)
                  · exact fun b hb => (HS2.out b hb).elim (HS1.out b) (fun h => .inr (Nat.le_trans HG.out.size h))
                  · rw [HSU2.out]; exact HR3.out
                  · exact HG2.out.trans' (Fr.of_grown HG3.out) (fun i hi h => (HR2.out.1 i h.symm).2.elim .inr (fun h => absurd h (by omega)))
                case measure => simp [intOf]; omega
              · have HE := Lib.hid he
                have tne : (errBat (itx M k).2 == 0) = false := by simpa using he
                clear he
                go_wp2_with fail
                refine rt_start [] (At St) 17 (by kernel_rfl) rfl ?_
                refine rt_free 0 (v := ?_) rfl (by kernel_rfl) (by kernel_rfl) (by kernel_rfl) (by kernel_rfl) (fun _ _ _ h => h) (by rfl) (fun _ => by first | assumption | exact HS0 _ rfl | exact HT.out _ (by repeat (first | exact Fr.refl _ _ | apply Fr.drew | refine Fr.alloc ?_ _))) ?_ ?_
                rotate_left 1
                · intro w; go_simp <;> with_reducible rfl
                try simp only [Act.put, List.setIfInBounds_toArray, List.set_cons_zero, List.set_cons_succ]
                refine rt_free 1 (v := ?_) rfl (by kernel_rfl) (by kernel_rfl) (by kernel_rfl) (by kernel_rfl) (fun _ _ _ h => h) (by rfl) (fun _ => by first | assumption | exact HS0 _ rfl | exact HT.out _ (by repeat (first | exact Fr.refl _ _ | apply Fr.drew | refine Fr.alloc ?_ _))) ?_ ?_
                rotate_left 1
                · intro w; go_simp <;> with_reducible rfl
                try simp only [Act.put, List.setIfInBounds_toArray, List.set_cons_zero, List.set_cons_succ]
                refine rt_free 2 (v := ?_) rfl (by kernel_rfl) (by kernel_rfl) (by kernel_rfl) (by kernel_rfl) (fun _ _ _ h => h) (by rfl) (fun _ => by first | assumption | exact HS0 _ rfl | exact HT.out _ (by repeat (first | exact Fr.refl _ _ | apply Fr.drew | refine Fr.alloc ?_ _))) ?_ ?_
                rotate_left 1
                · intro w; go_simp <;> with_reducible rfl
                try simp only [Act.put, List.setIfInBounds_toArray, List.set_cons_zero, List.set_cons_succ]
                refine rt_free 3 (v := ?_) rfl (by kernel_rfl) (by kernel_rfl) (by kernel_rfl) (by kernel_rfl) (fun _ _ _ h => h) (by rfl) (fun _ => by first | assumption | exact HS0 _ rfl | exact HT.out _ (by repeat (first | exact Fr.refl _ _ | apply Fr.drew | refine Fr.alloc ?_ _))) ?_ ?_
                rotate_left 1
                · intro w; go_simp <;> with_reducible rfl
                try simp only [Act.put, List.setIfInBounds_toArray, List.set_cons_zero, List.set_cons_succ]
                refine rt_free 4 (v := ?_) rfl (by kernel_rfl) (by kernel_rfl) (by kernel_rfl) (by kernel_rfl) (fun _ _ _ h => h) (by rfl) (fun _ => by first | assumption | exact HS0 _ rfl | exact HT.out _ (by repeat (first | exact Fr.refl _ _ | apply Fr.drew | refine Fr.alloc ?_ _))) ?_ ?_
                rotate_left 1
                · intro w; go_simp <;> with_reducible rfl
                try simp only [Act.put, List.setIfInBounds_toArray, List.set_cons_zero, List.set_cons_succ]
                refine rt_take 5 (v := ?_) rfl (by kernel_rfl) (by kernel_rfl) (by kernel_rfl) (by kernel_rfl) (fun _ _ _ h => h) (by rfl) (by first | assumption | exact HS0 _ rfl | exact HT.out _ (by repeat (first | exact Fr.refl _ _ | apply Fr.drew | refine Fr.alloc ?_ _))) ?_ ?_
                rotate_left 1
                · intro w hSw; go_simp <;> with_reducible rfl
                try simp only [Act.put, List.setIfInBounds_toArray, List.set_cons_zero, List.set_cons_succ]
                refine rt_free 6 (v := ?_) rfl (by kernel_rfl) (by kernel_rfl) (by kernel_rfl) (by kernel_rfl) (fun _ _ _ h => h) (by rfl) (fun _ => by first | assumption | exact HS0 _ rfl | exact HT.out _ (by repeat (first | exact Fr.refl _ _ | apply Fr.drew | refine Fr.alloc ?_ _))) ?_ ?_
                rotate_left 1
                · intro w; go_simp <;> with_reducible rfl
                try simp only [Act.put, List.setIfInBounds_toArray, List.set_cons_zero, List.set_cons_succ]
                refine rt_free 7 (v := ?_) rfl (by kernel_rfl) (by kernel_rfl) (by kernel_rfl) (by kernel_rfl) (fun _ _ _ h => h) (by rfl) (fun _ => by first | assumption | exact HS0 _ rfl | exact HT.out _ (by repeat (first | exact Fr.refl _ _ | apply Fr.drew | refine Fr.alloc ?_ _))) ?_ ?_
                rotate_left 1
                · intro w; go_simp <;> with_reducible rfl
                try simp only [Act.put, List.setIfInBounds_toArray, List.set_cons_zero, List.set_cons_succ]
                refine rt_free 8 (v := ?_) rfl (by kernel_rfl) (by kernel_rfl) (by kernel_rfl) (by kernel_rfl) (fun _ _ _ h => h) (by rfl) (fun _ => by first | assumption | exact HS0 _ rfl | exact HT.out _ (by repeat (first | exact Fr.refl _ _ | apply Fr.drew | refine Fr.alloc ?_ _))) ?_ ?_
                rotate_left 1
                · intro w; go_simp <;> with_reducible rfl
                try simp only [Act.put, List.setIfInBounds_toArray, List.set_cons_zero, List.set_cons_succ]
                refine rt_free 9 (v := ?_) rfl (by kernel_rfl) (by kernel_rfl) (by kernel_rfl) (by kernel_rfl) (fun _ _ _ h => h) (by rfl) (fun _ => by first | assumption | exact HS0 _ rfl | exact HT.out _ (by repeat (first | exact Fr.refl _ _ | apply Fr.drew | refine Fr.alloc ?_ _))) ?_ ?_
                rotate_left 1
                · intro w; go_simp <;> with_reducible rfl
                try simp only [Act.put, List.setIfInBounds_toArray, List.set_cons_zero, List.set_cons_succ]
                refine rt_take 10 (v := ?_) rfl (by kernel_rfl) (by kernel_rfl) (by kernel_rfl) (by kernel_rfl) (fun _ _ _ h => h) (by rfl) (by first | assumption | exact HS0 _ rfl | exact HT.out _ (by repeat (first | exact Fr.refl _ _ | apply Fr.drew | refine Fr.alloc ?_ _))) ?_ ?_
                rotate_left 1
                · intro w hSw; go_simp <;> with_reducible rfl
                try simp only [Act.put, List.setIfInBounds_toArray, List.set_cons_zero, List.set_cons_succ]
                refine rt_one 11 rfl (by kernel_rfl) (fun K hK => ?_)
                go_simp
                refine (vault_apply (itx M k).1 Ab (itx M k).2.length cb (itx M k).2 g' m S1 (runI (M.take k)).1 _ HVd.out HCb.out HA0.out HGD.out HRT.out.1 (by omega) (by have := HRT.out.2.1; omega)).mono ?_
                rintro r W2 hres
                obtain ⟨rfl, hF2⟩ := hres.no HE.out
                have HFr := Lib.hid ((Fr.refl (fun _ => False) wr).drew.trans hF2)
                have hT2 := HT.out _ ((Fr.refl S1 wr).trans' HFr.out (fun i hi h => h.elim))
                clear hres hF2
                go_wp2_with fail
                refine hK.out (At St) _ _ (fun _ h => h) (fun _ => by (assumption)) ?_
                clear hK K
                try simp only [Act.put, List.setIfInBounds_toArray, List.set_cons_zero, List.set_cons_succ]
                refine rt_free 12 (v := ?_) rfl (by kernel_rfl) (by kernel_rfl) (by kernel_rfl) (by kernel_rfl) (fun _ _ _ h => h) (by rfl) (fun _ => by first | assumption | exact HS0 _ rfl | exact HT.out _ (by repeat (first | exact Fr.refl _ _ | apply Fr.drew | refine Fr.alloc ?_ _))) ?_ ?_
                rotate_left 1
                · intro w; go_simp <;> with_reducible rfl
                try simp only [Act.put, List.setIfInBounds_toArray, List.set_cons_zero, List.set_cons_succ]
                refine rt_free 13 (v := ?_) rfl (by kernel_rfl) (by kernel_rfl) (by kernel_rfl) (by kernel_rfl) (fun _ _ _ h => h) (by rfl) (fun _ => by first | assumption | exact HS0 _ rfl | exact HT.out _ (by repeat (first | exact Fr.refl _ _ | apply Fr.drew | refine Fr.alloc ?_ _))) ?_ ?_
                rotate_left 1
                · intro w; go_simp <;> with_reducible rfl
                try simp only [Act.put, List.setIfInBounds_toArray, List.set_cons_zero, List.set_cons_succ]
                refine rt_free 14 (v := ?_) rfl (by kernel_rfl) (by kernel_rfl) (by kernel_rfl) (by kernel_rfl) (fun _ _ _ h => h) (by rfl) (fun _ => by first | assumption | exact HS0 _ rfl | exact HT.out _ (by repeat (first | exact Fr.refl _ _ | apply Fr.drew | refine Fr.alloc ?_ _))) ?_ ?_
                rotate_left 1
                · intro w; go_simp <;> with_reducible rfl
                try simp only [Act.put, List.setIfInBounds_toArray, List.set_cons_zero, List.set_cons_succ]
                refine rt_free 15 (v := ?_) rfl (by kernel_rfl) (by kernel_rfl) (by kernel_rfl) (by kernel_rfl) (fun _ _ _ h => h) (by rfl) (fun _ => by first | assumption | exact HS0 _ rfl | exact HT.out _ (by repeat (first | exact Fr.refl _ _ | apply Fr.drew | refine Fr.alloc ?_ _))) ?_ ?_
                rotate_left 1
                · intro w; go_simp <;> with_reducible rfl
                try simp only [Act.put, List.setIfInBounds_toArray, List.set_cons_zero, List.set_cons_succ]
                refine rt_free 16 (v := ?_) rfl (by kernel_rfl) (by kernel_rfl) (by kernel_rfl) (by kernel_rfl) (fun _ _ _ h => h) (by rfl) (fun _ => by first | assumption | exact HS0 _ rfl | exact HT.out _ (by repeat (first | exact Fr.refl _ _ | apply Fr.drew | refine Fr.alloc ?_ _))) ?_ ?_
                rotate_left 1
                · intro w; go_simp <;> with_reducible rfl
                try simp only [Act.put, List.setIfInBounds_toArray, List.set_cons_zero, List.set_cons_succ]
                refine rt_done (by kernel_rfl) ?_
                have hst : stepI (runI (M.take k)) (itx M k) = runI (M.take k) := if_neg HE.out
                have HST := Lib.hid hst
                have hsu := HSU.out
                rw [if_neg HE.out, List.append_nil] at hsu
                have HSU2 := Lib.hid hsu
                clear hst hsu l0 l1 l2 hT0 hT2
                go_wp2_with fail
                go_roundw
                case rel =>
                  refine ⟨k + 1, by omega, by go_num, S1, m, by omega, ?_, HS1.out, ?_, HG.out.trans' HFr.out (fun i hi h => h.elim)⟩
                  · rw [HRS.out, HST.out]
                    exact HV.out.fr HFr.out (fun _ _ h => h)
                  · rw [HSU2.out]
                    exact Kd.R_below HR.out (HFr.out.below (fun _ _ h => h))
                case measure => simp [intOf]; omega
            · obtain rfl : n' = k := by omega
              have tnn : decide (n' < n') = false := decide_eq_false (by omega)
              have hlM : M.take n' = M := by rw [← HLn'.out]; exact List.take_length
              have hlL : L.take n = L := by rw [← HLn.out]; exact List.take_length
              have hV5 := HV.out
              have hR5 := HR.out
              rw [hlM] at hV5 hR5
              have hV5a := HV4.out.fr HG.out (fun b hb h => h.elim (HS1A.out b hb).1 (HS1A.out b hb).2.1)
              rw [runI_eq] at hV5 hV5a
              have HV5b := Lib.hid hV5
              have HV5a := Lib.hid hV5a
              have hga := (runI_take HO.out n (by rw [HLn.out]; exact Nat.le_refl _)).1
              have hgb := (runI_take HO'.out n' (by rw [HLn'.out]; exact Nat.le_refl _)).1
              rw [hlL, runI_eq] at hga
              rw [hlM, runI_eq] at hgb
              have HGA := Lib.hid hga
              have HGB := Lib.hid hgb
              have HR5b := Lib.hid hR5
              have HR5a := Lib.hid (Kd.R_step HR4.out (fun b hb hl => HG.out.block b hl (fun h => by
                have h3 := HX.out
                rcases h with h | h
                · have h2 := HSS.out b h; rcases hb.2 with h4 | h4 <;> omega
                · rcases hb.2 with h4 | h4 <;> omega)))
              have HW5 := HWr
              have h8a : ∀ it ∈ goodI L, it.2.length ≤ 8 := fun it hi => errBat_len (by simpa using (List.mem_filter.1 hi).2)
              have h8b : ∀ it ∈ goodI M, it.2.length ≤ 8 := fun it hi => errBat_len (by simpa using (List.mem_filter.1 hi).2)
              have H8a := Lib.hid h8a
              have H8b := Lib.hid h8b
              have HIA := Lib.hid (goodI_good HO.out)
              have HIB := Lib.hid (goodI_good HO'.out)
              have hla : (goodI L).length ≤ 12 := by have h1 := goodI_len L; have h2 := HLn.out; omega
              have hlb : (goodI M).length ≤ 12 := by have h1 := goodI_len M; have h2 := HLn'.out; omega
              have HLA := Lib.hid hla
              have HLB := Lib.hid hlb
              obtain ⟨A1, c1, rfl⟩ := Kd.R_slice HR5a.out
              obtain ⟨A2, c2, rfl⟩ := Kd.R_slice HR5b.out
              obtain ⟨W5, hW5⟩ : ∃ W, W = wr := ⟨_, rfl⟩
              subst hW5
              clear hV5 hR5 hV5a hga hgb HV HR HG HWr HS1 tnn h8a h8b hla hlb hlM hlL
              have hz := Kd.R_lower (R_empty (itF w) 34 W5) HW5.out.size
              obtain ⟨v6, W6, hr6, hR6, hg6, _⟩ := R_rows_run (P := Try.prog) (itF w) w.heap.size 22 22 34 _ 40 Try.underlying22 info_it2 rfl (show 0 < itemK.sz by decide) (by decide) (.slice (some ⟨W5.heap.size, 0, none⟩) 0 0) [] (goodI L) A1 (goodI L).length c1 (fun b => W5.heap.size ≤ b) (fun _ => False) hz (Kd.R_reads' (Kd.R_alloc HR5a.out _)).2.2 (fun x cs h => h) (fun _ h => h.elim) (fun b hb => by rw [World.size_alloc] at hb; omega) (Nat.le_trans HW5.out.size (by rw [World.size_alloc]; omega)) (by have := HLA.out; rw [List.length_nil]; omega)
              rw [List.nil_append] at hR6
              have hq6 := Kd.R_grown (Kd.R_alloc (Kd.R_bound HR5b.out) (.cells #[] 34)) hg6 (fun b hb h => by have h1 := own_new _ _ h.symm; have h2 := hb.2.2.1; omega)
              have hF6 : Fr (fun _ => False) W5 W6 := ((Fr.refl (fun _ => False) W5).alloc (.cells #[] 34)).trans' (Fr.of_grown hg6) (fun i hi h => by have h1 := own_new _ _ h.symm; omega)
              obtain ⟨v7, W7, hr7, hR7, hg7, _⟩ := R_rows_run (P := Try.prog) (itF w) w.heap.size 22 22 34 _ 40 Try.underlying22 info_it2 rfl (show 0 < itemK.sz by decide) (by decide) v6 (goodI L) (goodI M) A2 (goodI M).length c2 (fun b => W5.heap.size ≤ b) (fun _ => False) hR6 (Kd.R_reads' hq6).2.2 (fun x cs h => h) (fun _ h => h.elim) (fun b hb => Nat.le_trans hF6.size hb) (Nat.le_trans HW5.out.size hF6.size) (by have h1 := HLA.out; have h2 := HLB.out; omega)
              have hF7 : Fr (fun _ => False) W5 W7 := hF6.trans' (Fr.of_grown hg7) (fun i hi h => by have := hR6.1 i h.symm; omega)
              obtain ⟨A7, c7, rfl⟩ := Kd.R_slice hR7
              have hc7 := itF_C ((HW5.out.trans hF7).below (fun _ _ h => h)) (Kd.R_reads' hR7).2.2
              obtain ⟨N, hN⟩ : ∃ N, N = (goodI L ++ goodI M).length := ⟨_, rfl⟩
              rw [← hN] at hr7 hc7
              have hr6' := bi_append hr6
              have hr7' := bi_append hr7
              have HC7 := Lib.hid hc7
              have HN := Lib.hid hN
              clear hc7 hN
              have HF7 := Lib.hid hF7
              clear hz hr6 hr7 hR6 hg6 hq6 hF6 hR7 hg7 hF7
              go_wp2_with (first | (at_builtin; refine wpl_builtin2 rfl rfl rfl rfl hr6' ?_) | (at_builtin; refine wpl_builtin2 rfl rfl rfl rfl hr7' ?_))
              refine (ref_all13 A7 N c7 (goodI L ++ goodI M) W7 HC7.out (by have h1 := HLA.out; have h2 := HLB.out; have h3 := HN.out; rw [List.length_append] at h3; omega) (fun it hi => (List.mem_append.1 hi).elim (H8a.out it) (H8b.out it))).mono ?_
              rintro r W8 ⟨v8, rfl, hR8, hF8⟩
              have hF8' := HF7.out.trans hF8
              have HC1 := Lib.hid (itF_C ((HW5.out.trans hF8').below (fun _ _ h => h)) (Kd.C_below (Kd.R_reads' HR5a.out).2.2 (hF8'.below (fun _ _ h => h))))
              have HC2 := Lib.hid (itF_C ((HW5.out.trans hF8').below (fun _ _ h => h)) (Kd.C_below (Kd.R_reads' HR5b.out).2.2 (hF8'.below (fun _ _ h => h))))
              have HV8a := Lib.hid (HV5a.out.fr hF8' (fun _ _ h => h))
              have HV8b := Lib.hid (HV5b.out.fr hF8' (fun _ _ h => h))
              have HF8 := Lib.hid (HW5.out.trans hF8')
              obtain ⟨A8, c8, rfl⟩ := Kd.R_slice hR8
              have HCK := Lib.hid (Kd.R_reads' hR8).2.2
              have HKN := Lib.hid (show (keysR (cmdsI (goodI L ++ goodI M))).length ≤ 9223372036854775807 from HCK.out.2.1)
              have hsk := cdec_iff (same_keys (goodI L) (goodI M))
              have HSK := Lib.hid hsk
              obtain ⟨K, hK⟩ : ∃ K, K = keysR (cmdsI (goodI L ++ goodI M)) := ⟨_, rfl⟩
              rw [← hK] at HCK HKN HSK ⊢
              have hkn : K.length ≤ 9223372036854775807 := HKN.out
              clear hF8 hF8' hR8 hsk hr6' hr7' hK
              go_wp2_with fail
              go_loopw [16, 17] (fun u i wr => ∃ k : Nat, k ≤ K.length ∧ i = .int .i64 k ∧ u = .bool (cdec (∀ j, j < k → PKey (goodI L) (goodI M) (stx K j))) ∧ Fr (fun _ => False) W8 wr) (fun _ i _ => K.length - (intOf i).toNat)
              case atStart => exact ⟨0, Nat.zero_le _, rfl, by rw [cdec_true (fun j h => absurd h (by omega))], Fr.refl _ _⟩
              case round =>
                obtain ⟨k, hk, rfl, rfl, hG⟩ := hrel
                have HG := Lib.hid hG
                clear hG
                rcases Nat.lt_or_ge k K.length with hlt | hge
                · obtain ⟨bk, ob, rfl, hk0⟩ := strs_at (Kd.C_below HCK.out (HG.out.below (fun _ _ h => h))) hlt
                  obtain ⟨St, hSt⟩ : ∃ St : World → Prop, St = Fr (fun _ => False) wr := ⟨_, rfl⟩
                  have HT := Lib.hid (show ∀ w', Fr (fun _ => False) wr w' → At St w' from fun w' h => by unfold At; rw [hSt]; exact h)
                  have lift : ∀ (q : Addr) (v : Value), wr.cell? q = some v → ∀ w', At St w' → w'.cell? q = some v := fun q v hq w' h => by replace h := h.out; rw [hSt] at h; exact h.cell hq (fun h => h)
                  have ek := lift _ _ hk0
                  have hT0 := HT.out wr.drew (Fr.refl _ _).drew
                  have Fn := Lib.hid ((Fr.refl (fun _ => False) wr).drew)
                  obtain ⟨key, hkey⟩ : ∃ key, key = stx K k := ⟨_, rfl⟩
                  rw [← hkey] at ek
                  have HKEY := Lib.hid hkey
                  have hnext : (∀ j, j < k + 1 → PKey (goodI L) (goodI M) (stx K j)) ↔ (∀ j, j < k → PKey (goodI L) (goodI M) (stx K j)) ∧ PKey (goodI L) (goodI M) key := by
                    constructor
                    · intro h
                      exact ⟨fun j hj => h j (by omega), by rw [hkey]; exact h k (by omega)⟩
                    · rintro ⟨h1, h2⟩ j hj
                      rcases Nat.lt_or_ge j k with h | h
                      · exact h1 j h
                      · obtain rfl : j = k := by omega
                        rw [← hkey]; exact h2
                  have HNX9 := Lib.hid hnext
                  clear lift hSt hk0 hkey hnext
                  by_cases hq : ∀ j, j < k → PKey (goodI L) (goodI M) (stx K j)
                  · rw [cdec_true hq]
                    have HQ := Lib.hid hq
                    clear hq
                    by_cases hcl : cellOf (runB (goodI L)).1 key = cellOf (runB (goodI M)).1 key
                    · have HCL := Lib.hid hcl
                      clear hcl
                      go_wp2_with fail
                      refine rt_start [] (At St) 32 (by kernel_rfl) rfl ?_
                      refine rt_free 0 (v := ?_) rfl (by kernel_rfl) (by kernel_rfl) (by kernel_rfl) (by kernel_rfl) (fun _ _ _ h => h) (by rfl) (fun _ => by first | assumption | exact HS0 _ rfl | exact HT.out _ (by repeat (first | exact Fr.refl _ _ | apply Fr.drew | refine Fr.alloc ?_ _))) ?_ ?_
                      rotate_left 1
                      · intro w; go_simp <;> with_reducible rfl
                      try simp only [Act.put, List.setIfInBounds_toArray, List.set_cons_zero, List.set_cons_succ]
                      refine rt_free 1 (v := ?_) rfl (by kernel_rfl) (by kernel_rfl) (by kernel_rfl) (by kernel_rfl) (fun _ _ _ h => h) (by rfl) (fun _ => by first | assumption | exact HS0 _ rfl | exact HT.out _ (by repeat (first | exact Fr.refl _ _ | apply Fr.drew | refine Fr.alloc ?_ _))) ?_ ?_
                      rotate_left 1
                      · intro w; go_simp <;> with_reducible rfl
                      try simp only [Act.put, List.setIfInBounds_toArray, List.set_cons_zero, List.set_cons_succ]
                      refine rt_free 2 (v := ?_) rfl (by kernel_rfl) (by kernel_rfl) (by kernel_rfl) (by kernel_rfl) (fun _ _ _ h => h) (by rfl) (fun _ => by first | assumption | exact HS0 _ rfl | exact HT.out _ (by repeat (first | exact Fr.refl _ _ | apply Fr.drew | refine Fr.alloc ?_ _))) ?_ ?_
                      rotate_left 1
                      · intro w; go_simp <;> with_reducible rfl
                      try simp only [Act.put, List.setIfInBounds_toArray, List.set_cons_zero, List.set_cons_succ]
                      refine rt_free 3 (v := ?_) rfl (by kernel_rfl) (by kernel_rfl) (by kernel_rfl) (by kernel_rfl) (fun _ _ _ h => h) (by rfl) (fun _ => by first | assumption | exact HS0 _ rfl | exact HT.out _ (by repeat (first | exact Fr.refl _ _ | apply Fr.drew | refine Fr.alloc ?_ _))) ?_ ?_
                      rotate_left 1
                      · intro w; go_simp <;> with_reducible rfl
                      try simp only [Act.put, List.setIfInBounds_toArray, List.set_cons_zero, List.set_cons_succ]
                      refine rt_free 4 (v := ?_) rfl (by kernel_rfl) (by kernel_rfl) (by kernel_rfl) (by kernel_rfl) (fun _ _ _ h => h) (by rfl) (fun _ => by first | assumption | exact HS0 _ rfl | exact HT.out _ (by repeat (first | exact Fr.refl _ _ | apply Fr.drew | refine Fr.alloc ?_ _))) ?_ ?_
                      rotate_left 1
                      · intro w; go_simp <;> with_reducible rfl
                      try simp only [Act.put, List.setIfInBounds_toArray, List.set_cons_zero, List.set_cons_succ]
                      refine rt_free 5 (v := ?_) rfl (by kernel_rfl) (by kernel_rfl) (by kernel_rfl) (by kernel_rfl) (fun _ _ _ h => h) (by rfl) (fun _ => by first | assumption | exact HS0 _ rfl | exact HT.out _ (by repeat (first | exact Fr.refl _ _ | apply Fr.drew | refine Fr.alloc ?_ _))) ?_ ?_
                      rotate_left 1
                      · intro w; go_simp <;> with_reducible rfl
                      try simp only [Act.put, List.setIfInBounds_toArray, List.set_cons_zero, List.set_cons_succ]
                      refine rt_take 6 (v := ?_) rfl (by kernel_rfl) (by kernel_rfl) (by kernel_rfl) (by kernel_rfl) (fun _ _ _ h => h) (by rfl) (by first | assumption | exact HS0 _ rfl | exact HT.out _ (by repeat (first | exact Fr.refl _ _ | apply Fr.drew | refine Fr.alloc ?_ _))) ?_ ?_
                      rotate_left 1
                      · intro w hSw; go_simp <;> with_reducible rfl
                      try simp only [Act.put, List.setIfInBounds_toArray, List.set_cons_zero, List.set_cons_succ]
                      refine rt_free 8 (v := ?_) rfl (by kernel_rfl) (by kernel_rfl) (by kernel_rfl) (by kernel_rfl) (fun _ _ _ h => h) (by rfl) (fun _ => by first | assumption | exact HS0 _ rfl | exact HT.out _ (by repeat (first | exact Fr.refl _ _ | apply Fr.drew | refine Fr.alloc ?_ _))) ?_ ?_
                      rotate_left 1
                      · intro w; go_simp <;> with_reducible rfl
                      try simp only [Act.put, List.setIfInBounds_toArray, List.set_cons_zero, List.set_cons_succ]
                      refine rt_free 9 (v := ?_) rfl (by kernel_rfl) (by kernel_rfl) (by kernel_rfl) (by kernel_rfl) (fun _ _ _ h => h) (by rfl) (fun _ => by first | assumption | exact HS0 _ rfl | exact HT.out _ (by repeat (first | exact Fr.refl _ _ | apply Fr.drew | refine Fr.alloc ?_ _))) ?_ ?_
                      rotate_left 1
                      · intro w; go_simp <;> with_reducible rfl
                      try simp only [Act.put, List.setIfInBounds_toArray, List.set_cons_zero, List.set_cons_succ]
                      refine rt_free 10 (v := ?_) rfl (by kernel_rfl) (by kernel_rfl) (by kernel_rfl) (by kernel_rfl) (fun _ _ _ h => h) (by rfl) (fun _ => by first | assumption | exact HS0 _ rfl | exact HT.out _ (by repeat (first | exact Fr.refl _ _ | apply Fr.drew | refine Fr.alloc ?_ _))) ?_ ?_
                      rotate_left 1
                      · intro w; go_simp <;> with_reducible rfl
                      try simp only [Act.put, List.setIfInBounds_toArray, List.set_cons_zero, List.set_cons_succ]
                      refine rt_free 11 (v := ?_) rfl (by kernel_rfl) (by kernel_rfl) (by kernel_rfl) (by kernel_rfl) (fun _ _ _ h => h) (by rfl) (fun _ => by first | assumption | exact HS0 _ rfl | exact HT.out _ (by repeat (first | exact Fr.refl _ _ | apply Fr.drew | refine Fr.alloc ?_ _))) ?_ ?_
                      rotate_left 1
                      · intro w; go_simp <;> with_reducible rfl
                      try simp only [Act.put, List.setIfInBounds_toArray, List.set_cons_zero, List.set_cons_succ]
                      refine rt_take 12 (v := ?_) rfl (by kernel_rfl) (by kernel_rfl) (by kernel_rfl) (by kernel_rfl) (fun _ _ _ h => h) (by rfl) (by first | assumption | exact HS0 _ rfl | exact HT.out _ (by repeat (first | exact Fr.refl _ _ | apply Fr.drew | refine Fr.alloc ?_ _))) ?_ ?_
                      rotate_left 1
                      · intro w hSw; go_simp <;> with_reducible rfl
                      try simp only [Act.put, List.setIfInBounds_toArray, List.set_cons_zero, List.set_cons_succ]
                      refine rt_one 7 rfl (by kernel_rfl) (fun K hK => ?_)
                      go_simp
                      refine (ref_cell13 A1 (goodI L).length c1 (goodI L) key _ (Kd.C_below HC1.out ((HG.out.trans Fn.out).below (fun _ _ h => h))) HIA.out (by have := HLA.out; omega)).mono ?_
                      rintro r Wa ⟨ua, rfl, hua, hoa, hFa⟩
                      have HUA := Lib.hid hua
                      have HOA := Lib.hid hoa
                      have Fa := Lib.hid (Fn.out.trans hFa)
                      have hTa := HT.out _ Fa.out
                      clear hua hoa hFa
                      go_wp2_with fail
                      refine hK.out (At St) _ _ (fun _ h => h) (fun _ => by (assumption)) ?_
                      clear hK K
                      try simp only [Act.put, List.setIfInBounds_toArray, List.set_cons_zero, List.set_cons_succ]
                      refine rt_one 13 rfl (by kernel_rfl) (fun K hK => ?_)
                      go_simp
                      refine (ref_cell13 A2 (goodI M).length c2 (goodI M) key _ (Kd.C_below HC2.out ((HG.out.trans Fa.out).below (fun _ _ h => h))) HIB.out (by have := HLB.out; omega)).mono ?_
                      rintro r Wb ⟨ub, rfl, hub, hob, hFb⟩
                      have HUB := Lib.hid hub
                      have HOB := Lib.hid hob
                      have Fb := Lib.hid (Fa.out.trans hFb)
                      have hTb := HT.out _ Fb.out
                      clear hub hob hFb
                      go_wp2_with fail
                      refine hK.out (At St) _ _ (fun _ h => h) (fun _ => by (assumption)) ?_
                      clear hK K
                      try simp only [Act.put, List.setIfInBounds_toArray, List.set_cons_zero, List.set_cons_succ]
                      refine rt_one 14 rfl (by kernel_rfl) (fun K hK => ?_)
                      go_simp
                      refine (ref_cell_same ua ub _ HOA.out HOB.out).mono ?_
                      rintro r Wc ⟨rfl, hFc⟩
                      rw [HUA.out, HUB.out, decide_eq_true HCL.out]
                      have Fc := Lib.hid (Fb.out.trans hFc)
                      have hTc := HT.out _ Fc.out
                      clear hFc
                      go_wp2_with fail
                      refine hK.out (At St) _ _ (fun _ h => h) (fun _ => by (assumption)) ?_
                      clear hK K
                      try simp only [Act.put, List.setIfInBounds_toArray, List.set_cons_zero, List.set_cons_succ]
                      refine rt_free 15 (v := ?_) rfl (by kernel_rfl) (by kernel_rfl) (by kernel_rfl) (by kernel_rfl) (fun _ _ _ h => h) (by rfl) (fun _ => by first | assumption | exact HS0 _ rfl | exact HT.out _ (by repeat (first | exact Fr.refl _ _ | apply Fr.drew | refine Fr.alloc ?_ _))) ?_ ?_
                      rotate_left 1
                      · intro w; go_simp <;> with_reducible rfl
                      try simp only [Act.put, List.setIfInBounds_toArray, List.set_cons_zero, List.set_cons_succ]
                      refine rt_free 16 (v := ?_) rfl (by kernel_rfl) (by kernel_rfl) (by kernel_rfl) (by kernel_rfl) (fun _ _ _ h => h) (by rfl) (fun _ => by first | assumption | exact HS0 _ rfl | exact HT.out _ (by repeat (first | exact Fr.refl _ _ | apply Fr.drew | refine Fr.alloc ?_ _))) ?_ ?_
                      rotate_left 1
                      · intro w; go_simp <;> with_reducible rfl
                      try simp only [Act.put, List.setIfInBounds_toArray, List.set_cons_zero, List.set_cons_succ]
                      refine rt_free 17 (v := ?_) rfl (by kernel_rfl) (by kernel_rfl) (by kernel_rfl) (by kernel_rfl) (fun _ _ _ h => h) (by rfl) (fun _ => by first | assumption | exact HS0 _ rfl | exact HT.out _ (by repeat (first | exact Fr.refl _ _ | apply Fr.drew | refine Fr.alloc ?_ _))) ?_ ?_
                      rotate_left 1
                      · intro w; go_simp <;> with_reducible rfl
                      try simp only [Act.put, List.setIfInBounds_toArray, List.set_cons_zero, List.set_cons_succ]
                      refine rt_free 18 (v := ?_) rfl (by kernel_rfl) (by kernel_rfl) (by kernel_rfl) (by kernel_rfl) (fun _ _ _ h => h) (by rfl) (fun _ => by first | assumption | exact HS0 _ rfl | exact HT.out _ (by repeat (first | exact Fr.refl _ _ | apply Fr.drew | refine Fr.alloc ?_ _))) ?_ ?_
                      rotate_left 1
                      · intro w; go_simp <;> with_reducible rfl
                      try simp only [Act.put, List.setIfInBounds_toArray, List.set_cons_zero, List.set_cons_succ]
                      refine rt_free 19 (v := ?_) rfl (by kernel_rfl) (by kernel_rfl) (by kernel_rfl) (by kernel_rfl) (fun _ _ _ h => h) (by rfl) (fun _ => by first | assumption | exact HS0 _ rfl | exact HT.out _ (by repeat (first | exact Fr.refl _ _ | apply Fr.drew | refine Fr.alloc ?_ _))) ?_ ?_
                      rotate_left 1
                      · intro w; go_simp <;> with_reducible rfl
                      try simp only [Act.put, List.setIfInBounds_toArray, List.set_cons_zero, List.set_cons_succ]
                      refine rt_free 20 (v := ?_) rfl (by kernel_rfl) (by kernel_rfl) (by kernel_rfl) (by kernel_rfl) (fun _ _ _ h => h) (by rfl) (fun _ => by first | assumption | exact HS0 _ rfl | exact HT.out _ (by repeat (first | exact Fr.refl _ _ | apply Fr.drew | refine Fr.alloc ?_ _))) ?_ ?_
                      rotate_left 1
                      · intro w; go_simp <;> with_reducible rfl
                      try simp only [Act.put, List.setIfInBounds_toArray, List.set_cons_zero, List.set_cons_succ]
                      refine rt_take 21 (v := ?_) rfl (by kernel_rfl) (by kernel_rfl) (by kernel_rfl) (by kernel_rfl) (fun _ _ _ h => h) (by rfl) (by first | assumption | exact HS0 _ rfl | exact HT.out _ (by repeat (first | exact Fr.refl _ _ | apply Fr.drew | refine Fr.alloc ?_ _))) ?_ ?_
                      rotate_left 1
                      · intro w hSw; go_simp <;> with_reducible rfl
                      try simp only [Act.put, List.setIfInBounds_toArray, List.set_cons_zero, List.set_cons_succ]
                      refine rt_free 23 (v := ?_) rfl (by kernel_rfl) (by kernel_rfl) (by kernel_rfl) (by kernel_rfl) (fun _ _ _ h => h) (by rfl) (fun _ => by first | assumption | exact HS0 _ rfl | exact HT.out _ (by repeat (first | exact Fr.refl _ _ | apply Fr.drew | refine Fr.alloc ?_ _))) ?_ ?_
                      rotate_left 1
                      · intro w; go_simp <;> with_reducible rfl
                      try simp only [Act.put, List.setIfInBounds_toArray, List.set_cons_zero, List.set_cons_succ]
                      refine rt_free 24 (v := ?_) rfl (by kernel_rfl) (by kernel_rfl) (by kernel_rfl) (by kernel_rfl) (fun _ _ _ h => h) (by rfl) (fun _ => by first | assumption | exact HS0 _ rfl | exact HT.out _ (by repeat (first | exact Fr.refl _ _ | apply Fr.drew | refine Fr.alloc ?_ _))) ?_ ?_
                      rotate_left 1
                      · intro w; go_simp <;> with_reducible rfl
                      try simp only [Act.put, List.setIfInBounds_toArray, List.set_cons_zero, List.set_cons_succ]
                      refine rt_free 25 (v := ?_) rfl (by kernel_rfl) (by kernel_rfl) (by kernel_rfl) (by kernel_rfl) (fun _ _ _ h => h) (by rfl) (fun _ => by first | assumption | exact HS0 _ rfl | exact HT.out _ (by repeat (first | exact Fr.refl _ _ | apply Fr.drew | refine Fr.alloc ?_ _))) ?_ ?_
                      rotate_left 1
                      · intro w; go_simp <;> with_reducible rfl
                      try simp only [Act.put, List.setIfInBounds_toArray, List.set_cons_zero, List.set_cons_succ]
                      refine rt_free 26 (v := ?_) rfl (by kernel_rfl) (by kernel_rfl) (by kernel_rfl) (by kernel_rfl) (fun _ _ _ h => h) (by rfl) (fun _ => by first | assumption | exact HS0 _ rfl | exact HT.out _ (by repeat (first | exact Fr.refl _ _ | apply Fr.drew | refine Fr.alloc ?_ _))) ?_ ?_
                      rotate_left 1
                      · intro w; go_simp <;> with_reducible rfl
                      try simp only [Act.put, List.setIfInBounds_toArray, List.set_cons_zero, List.set_cons_succ]
                      refine rt_take 27 (v := ?_) rfl (by kernel_rfl) (by kernel_rfl) (by kernel_rfl) (by kernel_rfl) (fun _ _ _ h => h) (by rfl) (by first | assumption | exact HS0 _ rfl | exact HT.out _ (by repeat (first | exact Fr.refl _ _ | apply Fr.drew | refine Fr.alloc ?_ _))) ?_ ?_
                      rotate_left 1
                      · intro w hSw; go_simp <;> with_reducible rfl
                      try simp only [Act.put, List.setIfInBounds_toArray, List.set_cons_zero, List.set_cons_succ]
                      refine rt_one 22 rfl (by kernel_rfl) (fun K hK => ?_)
                      go_simp
                      refine (ref_log13 A1 (goodI L).length c1 (goodI L) key _ (Kd.C_below HC1.out ((HG.out.trans Fc.out).below (fun _ _ h => h))) HIA.out (by have := HLA.out; omega) H8a.out).mono ?_
                      rintro r Wd ⟨vd, rfl, hRd, hFd⟩
                      obtain ⟨Ad, cd, rfl⟩ := Kd.R_slice hRd
                      have HCd := Lib.hid (Kd.R_reads' hRd).2.2
                      have Fd := Lib.hid (Fc.out.trans hFd)
                      have hTd := HT.out _ Fd.out
                      clear hRd hFd
                      go_wp2_with fail
                      refine hK.out (At St) _ _ (fun _ h => h) (fun _ => by (assumption)) ?_
                      clear hK K
                      try simp only [Act.put, List.setIfInBounds_toArray, List.set_cons_zero, List.set_cons_succ]
                      refine rt_one 28 rfl (by kernel_rfl) (fun K hK => ?_)
                      go_simp
                      refine (ref_log13 A2 (goodI M).length c2 (goodI M) key _ (Kd.C_below HC2.out ((HG.out.trans Fd.out).below (fun _ _ h => h))) HIB.out (by have := HLB.out; omega) H8b.out).mono ?_
                      rintro r We ⟨ve, rfl, hRe, hFe⟩
                      obtain ⟨Ae, ce, rfl⟩ := Kd.R_slice hRe
                      have HCe := Lib.hid (Kd.R_reads' hRe).2.2
                      have HCd2 := Lib.hid (Kd.C_below HCd.out (hFe.below (fun _ _ h => h)))
                      have Fe := Lib.hid (Fd.out.trans hFe)
                      have hTe := HT.out _ Fe.out
                      clear hRe hFe
                      go_wp2_with fail
                      refine hK.out (At St) _ _ (fun _ h => h) (fun _ => by (assumption)) ?_
                      clear hK K
                      try simp only [Act.put, List.setIfInBounds_toArray, List.set_cons_zero, List.set_cons_succ]
                      refine rt_one 29 rfl (by kernel_rfl) (fun K hK => ?_)
                      go_simp
                      refine (ref_sameLog Ad Ae _ cd _ ce _ _ _ HCd2.out HCe.out HCd2.out.2.1 HCe.out.2.1).mono ?_
                      rintro r Wf ⟨rfl, hFf⟩
                      have Ff := Lib.hid (Fe.out.trans hFf)
                      have hTf := HT.out _ Ff.out
                      clear hFf
                      go_wp2_with fail
                      refine hK.out (At St) _ _ (fun _ h => h) (fun _ => by (assumption)) ?_
                      clear hK K
                      try simp only [Act.put, List.setIfInBounds_toArray, List.set_cons_zero, List.set_cons_succ]
                      refine rt_free 30 (v := ?_) rfl (by kernel_rfl) (by kernel_rfl) (by kernel_rfl) (by kernel_rfl) (fun _ _ _ h => h) (by rfl) (fun _ => by first | assumption | exact HS0 _ rfl | exact HT.out _ (by repeat (first | exact Fr.refl _ _ | apply Fr.drew | refine Fr.alloc ?_ _))) ?_ ?_
                      rotate_left 1
                      · intro w; go_simp <;> with_reducible rfl
                      try simp only [Act.put, List.setIfInBounds_toArray, List.set_cons_zero, List.set_cons_succ]
                      refine rt_free 31 (v := ?_) rfl (by kernel_rfl) (by kernel_rfl) (by kernel_rfl) (by kernel_rfl) (fun _ _ _ h => h) (by rfl) (fun _ => by first | assumption | exact HS0 _ rfl | exact HT.out _ (by repeat (first | exact Fr.refl _ _ | apply Fr.drew | refine Fr.alloc ?_ _))) ?_ ?_
                      rotate_left 1
                      · intro w; go_simp <;> with_reducible rfl
                      try simp only [Act.put, List.setIfInBounds_toArray, List.set_cons_zero, List.set_cons_succ]
                      refine rt_done (by kernel_rfl) ?_
                      go_wp2_with fail
                      go_roundw
                      case rel =>
                        refine ⟨k + 1, by omega, by go_num, ?_, HG.out.trans Ff.out⟩
                        rw [cdec_iff HNX9.out]
                        by_cases hlg : logOf (runB (goodI L)).1 key = logOf (runB (goodI M)).1 key
                        · rw [cdec_true ⟨HQ.out, HCL.out, hlg⟩, decide_eq_true hlg]
                        · rw [cdec_false (fun h => hlg h.2.2), decide_eq_false hlg]
                      case measure => simp [intOf]; omega
                    · have HCL := Lib.hid hcl
                      clear hcl
                      go_wp2_with fail
                      refine rt_start [] (At St) 32 (by kernel_rfl) rfl ?_
                      refine rt_free 0 (v := ?_) rfl (by kernel_rfl) (by kernel_rfl) (by kernel_rfl) (by kernel_rfl) (fun _ _ _ h => h) (by rfl) (fun _ => by first | assumption | exact HS0 _ rfl | exact HT.out _ (by repeat (first | exact Fr.refl _ _ | apply Fr.drew | refine Fr.alloc ?_ _))) ?_ ?_
                      rotate_left 1
                      · intro w; go_simp <;> with_reducible rfl
                      try simp only [Act.put, List.setIfInBounds_toArray, List.set_cons_zero, List.set_cons_succ]
                      refine rt_free 1 (v := ?_) rfl (by kernel_rfl) (by kernel_rfl) (by kernel_rfl) (by kernel_rfl) (fun _ _ _ h => h) (by rfl) (fun _ => by first | assumption | exact HS0 _ rfl | exact HT.out _ (by repeat (first | exact Fr.refl _ _ | apply Fr.drew | refine Fr.alloc ?_ _))) ?_ ?_
                      rotate_left 1
                      · intro w; go_simp <;> with_reducible rfl
                      try simp only [Act.put, List.setIfInBounds_toArray, List.set_cons_zero, List.set_cons_succ]
                      refine rt_free 2 (v := ?_) rfl (by kernel_rfl) (by kernel_rfl) (by kernel_rfl) (by kernel_rfl) (fun _ _ _ h => h) (by rfl) (fun _ => by first | assumption | exact HS0 _ rfl | exact HT.out _ (by repeat (first | exact Fr.refl _ _ | apply Fr.drew | refine Fr.alloc ?_ _))) ?_ ?_
                      rotate_left 1
                      · intro w; go_simp <;> with_reducible rfl
                      try simp only [Act.put, List.setIfInBounds_toArray, List.set_cons_zero, List.set_cons_succ]
                      refine rt_free 3 (v := ?_) rfl (by kernel_rfl) (by kernel_rfl) (by kernel_rfl) (by kernel_rfl) (fun _ _ _ h => h) (by rfl) (fun _ => by first | assumption | exact HS0 _ rfl | exact HT.out _ (by repeat (first | exact Fr.refl _ _ | apply Fr.drew | refine Fr.alloc ?_ _))) ?_ ?_
                      rotate_left 1
                      · intro w; go_simp <;> with_reducible rfl
                      try simp only [Act.put, List.setIfInBounds_toArray, List.set_cons_zero, List.set_cons_succ]
                      refine rt_free 4 (v := ?_) rfl (by kernel_rfl) (by kernel_rfl) (by kernel_rfl) (by kernel_rfl) (fun _ _ _ h => h) (by rfl) (fun _ => by first | assumption | exact HS0 _ rfl | exact HT.out _ (by repeat (first | exact Fr.refl _ _ | apply Fr.drew | refine Fr.alloc ?_ _))) ?_ ?_
                      rotate_left 1
                      · intro w; go_simp <;> with_reducible rfl
                      try simp only [Act.put, List.setIfInBounds_toArray, List.set_cons_zero, List.set_cons_succ]
                      refine rt_free 5 (v := ?_) rfl (by kernel_rfl) (by kernel_rfl) (by kernel_rfl) (by kernel_rfl) (fun _ _ _ h => h) (by rfl) (fun _ => by first | assumption | exact HS0 _ rfl | exact HT.out _ (by repeat (first | exact Fr.refl _ _ | apply Fr.drew | refine Fr.alloc ?_ _))) ?_ ?_
                      rotate_left 1
                      · intro w; go_simp <;> with_reducible rfl
                      try simp only [Act.put, List.setIfInBounds_toArray, List.set_cons_zero, List.set_cons_succ]
                      refine rt_take 6 (v := ?_) rfl (by kernel_rfl) (by kernel_rfl) (by kernel_rfl) (by kernel_rfl) (fun _ _ _ h => h) (by rfl) (by first | assumption | exact HS0 _ rfl | exact HT.out _ (by repeat (first | exact Fr.refl _ _ | apply Fr.drew | refine Fr.alloc ?_ _))) ?_ ?_
                      rotate_left 1
                      · intro w hSw; go_simp <;> with_reducible rfl
                      try simp only [Act.put, List.setIfInBounds_toArray, List.set_cons_zero, List.set_cons_succ]
                      refine rt_free 8 (v := ?_) rfl (by kernel_rfl) (by kernel_rfl) (by kernel_rfl) (by kernel_rfl) (fun _ _ _ h => h) (by rfl) (fun _ => by first | assumption | exact HS0 _ rfl | exact HT.out _ (by repeat (first | exact Fr.refl _ _ | apply Fr.drew | refine Fr.alloc ?_ _))) ?_ ?_
                      rotate_left 1
                      · intro w; go_simp <;> with_reducible rfl
                      try simp only [Act.put, List.setIfInBounds_toArray, List.set_cons_zero, List.set_cons_succ]
                      refine rt_free 9 (v := ?_) rfl (by kernel_rfl) (by kernel_rfl) (by kernel_rfl) (by kernel_rfl) (fun _ _ _ h => h) (by rfl) (fun _ => by first | assumption | exact HS0 _ rfl | exact HT.out _ (by repeat (first | exact Fr.refl _ _ | apply Fr.drew | refine Fr.alloc ?_ _))) ?_ ?_
                      rotate_left 1
                      · intro w; go_simp <;> with_reducible rfl
                      try simp only [Act.put, List.setIfInBounds_toArray, List.set_cons_zero, List.set_cons_succ]
                      refine rt_free 10 (v := ?_) rfl (by kernel_rfl) (by kernel_rfl) (by kernel_rfl) (by kernel_rfl) (fun _ _ _ h => h) (by rfl) (fun _ => by first | assumption | exact HS0 _ rfl | exact HT.out _ (by repeat (first | exact Fr.refl _ _ | apply Fr.drew | refine Fr.alloc ?_ _))) ?_ ?_
                      rotate_left 1
                      · intro w; go_simp <;> with_reducible rfl
                      try simp only [Act.put, List.setIfInBounds_toArray, List.set_cons_zero, List.set_cons_succ]
                      refine rt_free 11 (v := ?_) rfl (by kernel_rfl) (by kernel_rfl) (by kernel_rfl) (by kernel_rfl) (fun _ _ _ h => h) (by rfl) (fun _ => by first | assumption | exact HS0 _ rfl | exact HT.out _ (by repeat (first | exact Fr.refl _ _ | apply Fr.drew | refine Fr.alloc ?_ _))) ?_ ?_
                      rotate_left 1
                      · intro w; go_simp <;> with_reducible rfl
                      try simp only [Act.put, List.setIfInBounds_toArray, List.set_cons_zero, List.set_cons_succ]
                      refine rt_take 12 (v := ?_) rfl (by kernel_rfl) (by kernel_rfl) (by kernel_rfl) (by kernel_rfl) (fun _ _ _ h => h) (by rfl) (by first | assumption | exact HS0 _ rfl | exact HT.out _ (by repeat (first | exact Fr.refl _ _ | apply Fr.drew | refine Fr.alloc ?_ _))) ?_ ?_
                      rotate_left 1
                      · intro w hSw; go_simp <;> with_reducible rfl
                      try simp only [Act.put, List.setIfInBounds_toArray, List.set_cons_zero, List.set_cons_succ]
                      refine rt_one 7 rfl (by kernel_rfl) (fun K hK => ?_)
                      go_simp
                      refine (ref_cell13 A1 (goodI L).length c1 (goodI L) key _ (Kd.C_below HC1.out ((HG.out.trans Fn.out).below (fun _ _ h => h))) HIA.out (by have := HLA.out; omega)).mono ?_
                      rintro r Wa ⟨ua, rfl, hua, hoa, hFa⟩
                      have HUA := Lib.hid hua
                      have HOA := Lib.hid hoa
                      have Fa := Lib.hid (Fn.out.trans hFa)
                      have hTa := HT.out _ Fa.out
                      clear hua hoa hFa
                      go_wp2_with fail
                      refine hK.out (At St) _ _ (fun _ h => h) (fun _ => by (assumption)) ?_
                      clear hK K
                      try simp only [Act.put, List.setIfInBounds_toArray, List.set_cons_zero, List.set_cons_succ]
                      refine rt_one 13 rfl (by kernel_rfl) (fun K hK => ?_)
                      go_simp
                      refine (ref_cell13 A2 (goodI M).length c2 (goodI M) key _ (Kd.C_below HC2.out ((HG.out.trans Fa.out).below (fun _ _ h => h))) HIB.out (by have := HLB.out; omega)).mono ?_
                      rintro r Wb ⟨ub, rfl, hub, hob, hFb⟩
                      have HUB := Lib.hid hub
                      have HOB := Lib.hid hob
                      have Fb := Lib.hid (Fa.out.trans hFb)
                      have hTb := HT.out _ Fb.out
                      clear hub hob hFb
                      go_wp2_with fail
                      refine hK.out (At St) _ _ (fun _ h => h) (fun _ => by (assumption)) ?_
                      clear hK K
                      try simp only [Act.put, List.setIfInBounds_toArray, List.set_cons_zero, List.set_cons_succ]
                      refine rt_one 14 rfl (by kernel_rfl) (fun K hK => ?_)
                      go_simp
                      refine (ref_cell_same ua ub _ HOA.out HOB.out).mono ?_
                      rintro r Wc ⟨rfl, hFc⟩
                      rw [HUA.out, HUB.out, decide_eq_false HCL.out]
                      have Fc := Lib.hid (Fb.out.trans hFc)
                      have hTc := HT.out _ Fc.out
                      clear hFc
                      go_wp2_with fail
                      refine hK.out (At St) _ _ (fun _ h => h) (fun _ => by (assumption)) ?_
                      clear hK K
                      try simp only [Act.put, List.setIfInBounds_toArray, List.set_cons_zero, List.set_cons_succ]
                      refine rt_free 15 (v := ?_) rfl (by kernel_rfl) (by kernel_rfl) (by kernel_rfl) (by kernel_rfl) (fun _ _ _ h => h) (by rfl) (fun _ => by first | assumption | exact HS0 _ rfl | exact HT.out _ (by repeat (first | exact Fr.refl _ _ | apply Fr.drew | refine Fr.alloc ?_ _))) ?_ ?_
                      rotate_left 1
                      · intro w; go_simp <;> with_reducible rfl
                      try simp only [Act.put, List.setIfInBounds_toArray, List.set_cons_zero, List.set_cons_succ]
                      refine rt_free 16 (v := ?_) rfl (by kernel_rfl) (by kernel_rfl) (by kernel_rfl) (by kernel_rfl) (fun _ _ _ h => h) (by rfl) (fun _ => by first | assumption | exact HS0 _ rfl | exact HT.out _ (by repeat (first | exact Fr.refl _ _ | apply Fr.drew | refine Fr.alloc ?_ _))) ?_ ?_
                      rotate_left 1
                      · intro w; go_simp <;> with_reducible rfl
                      try simp only [Act.put, List.setIfInBounds_toArray, List.set_cons_zero, List.set_cons_succ]
                      refine rt_skip 17 rfl (by kernel_rfl) (by kernel_rfl) (by kernel_rfl) (by kernel_rfl) (fun _ _ _ h => h) (by rfl) (fun _ => by first | assumption | exact HS0 _ rfl | exact HT.out _ (by repeat (first | exact Fr.refl _ _ | apply Fr.drew | refine Fr.alloc ?_ _))) ?_
                      try simp only [Act.put, List.setIfInBounds_toArray, List.set_cons_zero, List.set_cons_succ]
                      refine rt_skip 18 rfl (by kernel_rfl) (by kernel_rfl) (by kernel_rfl) (by kernel_rfl) (fun _ _ _ h => h) (by rfl) (fun _ => by first | assumption | exact HS0 _ rfl | exact HT.out _ (by repeat (first | exact Fr.refl _ _ | apply Fr.drew | refine Fr.alloc ?_ _))) ?_
                      try simp only [Act.put, List.setIfInBounds_toArray, List.set_cons_zero, List.set_cons_succ]
                      refine rt_skip 19 rfl (by kernel_rfl) (by kernel_rfl) (by kernel_rfl) (by kernel_rfl) (fun _ _ _ h => h) (by rfl) (fun _ => by first | assumption | exact HS0 _ rfl | exact HT.out _ (by repeat (first | exact Fr.refl _ _ | apply Fr.drew | refine Fr.alloc ?_ _))) ?_
                      try simp only [Act.put, List.setIfInBounds_toArray, List.set_cons_zero, List.set_cons_succ]
                      refine rt_skip 20 rfl (by kernel_rfl) (by kernel_rfl) (by kernel_rfl) (by kernel_rfl) (fun _ _ _ h => h) (by rfl) (fun _ => by first | assumption | exact HS0 _ rfl | exact HT.out _ (by repeat (first | exact Fr.refl _ _ | apply Fr.drew | refine Fr.alloc ?_ _))) ?_
                      try simp only [Act.put, List.setIfInBounds_toArray, List.set_cons_zero, List.set_cons_succ]
                      refine rt_skip 21 rfl (by kernel_rfl) (by kernel_rfl) (by kernel_rfl) (by kernel_rfl) (fun _ _ _ h => h) (by rfl) (fun _ => by first | assumption | exact HS0 _ rfl | exact HT.out _ (by repeat (first | exact Fr.refl _ _ | apply Fr.drew | refine Fr.alloc ?_ _))) ?_
                      try simp only [Act.put, List.setIfInBounds_toArray, List.set_cons_zero, List.set_cons_succ]
                      refine rt_skip 22 rfl (by kernel_rfl) (by kernel_rfl) (by kernel_rfl) (by kernel_rfl) (fun _ _ _ h => h) (by rfl) (fun _ => by first | assumption | exact HS0 _ rfl | exact HT.out _ (by repeat (first | exact Fr.refl _ _ | apply Fr.drew | refine Fr.alloc ?_ _))) ?_
                      try simp only [Act.put, List.setIfInBounds_toArray, List.set_cons_zero, List.set_cons_succ]
                      refine rt_skip 23 rfl (by kernel_rfl) (by kernel_rfl) (by kernel_rfl) (by kernel_rfl) (fun _ _ _ h => h) (by rfl) (fun _ => by first | assumption | exact HS0 _ rfl | exact HT.out _ (by repeat (first | exact Fr.refl _ _ | apply Fr.drew | refine Fr.alloc ?_ _))) ?_
                      try simp only [Act.put, List.setIfInBounds_toArray, List.set_cons_zero, List.set_cons_succ]
                      refine rt_skip 24 rfl (by kernel_rfl) (by kernel_rfl) (by kernel_rfl) (by kernel_rfl) (fun _ _ _ h => h) (by rfl) (fun _ => by first | assumption | exact HS0 _ rfl | exact HT.out _ (by repeat (first | exact Fr.refl _ _ | apply Fr.drew | refine Fr.alloc ?_ _))) ?_
                      try simp only [Act.put, List.setIfInBounds_toArray, List.set_cons_zero, List.set_cons_succ]
                      refine rt_skip 25 rfl (by kernel_rfl) (by kernel_rfl) (by kernel_rfl) (by kernel_rfl) (fun _ _ _ h => h) (by rfl) (fun _ => by first | assumption | exact HS0 _ rfl | exact HT.out _ (by repeat (first | exact Fr.refl _ _ | apply Fr.drew | refine Fr.alloc ?_ _))) ?_
                      try simp only [Act.put, List.setIfInBounds_toArray, List.set_cons_zero, List.set_cons_succ]
                      refine rt_skip 26 rfl (by kernel_rfl) (by kernel_rfl) (by kernel_rfl) (by kernel_rfl) (fun _ _ _ h => h) (by rfl) (fun _ => by first | assumption | exact HS0 _ rfl | exact HT.out _ (by repeat (first | exact Fr.refl _ _ | apply Fr.drew | refine Fr.alloc ?_ _))) ?_
                      try simp only [Act.put, List.setIfInBounds_toArray, List.set_cons_zero, List.set_cons_succ]
                      refine rt_skip 27 rfl (by kernel_rfl) (by kernel_rfl) (by kernel_rfl) (by kernel_rfl) (fun _ _ _ h => h) (by rfl) (fun _ => by first | assumption | exact HS0 _ rfl | exact HT.out _ (by repeat (first | exact Fr.refl _ _ | apply Fr.drew | refine Fr.alloc ?_ _))) ?_
                      try simp only [Act.put, List.setIfInBounds_toArray, List.set_cons_zero, List.set_cons_succ]
                      refine rt_skip 28 rfl (by kernel_rfl) (by kernel_rfl) (by kernel_rfl) (by kernel_rfl) (fun _ _ _ h => h) (by rfl) (fun _ => by first | assumption | exact HS0 _ rfl | exact HT.out _ (by repeat (first | exact Fr.refl _ _ | apply Fr.drew | refine Fr.alloc ?_ _))) ?_
                      try simp only [Act.put, List.setIfInBounds_toArray, List.set_cons_zero, List.set_cons_succ]
                      refine rt_skip 29 rfl (by kernel_rfl) (by kernel_rfl) (by kernel_rfl) (by kernel_rfl) (fun _ _ _ h => h) (by rfl) (fun _ => by first | assumption | exact HS0 _ rfl | exact HT.out _ (by repeat (first | exact Fr.refl _ _ | apply Fr.drew | refine Fr.alloc ?_ _))) ?_
                      try simp only [Act.put, List.setIfInBounds_toArray, List.set_cons_zero, List.set_cons_succ]
                      refine rt_free 30 (v := ?_) rfl (by kernel_rfl) (by kernel_rfl) (by kernel_rfl) (by kernel_rfl) (fun _ _ _ h => h) (by rfl) (fun _ => by first | assumption | exact HS0 _ rfl | exact HT.out _ (by repeat (first | exact Fr.refl _ _ | apply Fr.drew | refine Fr.alloc ?_ _))) ?_ ?_
                      rotate_left 1
                      · intro w; go_simp <;> with_reducible rfl
                      try simp only [Act.put, List.setIfInBounds_toArray, List.set_cons_zero, List.set_cons_succ]
                      refine rt_free 31 (v := ?_) rfl (by kernel_rfl) (by kernel_rfl) (by kernel_rfl) (by kernel_rfl) (fun _ _ _ h => h) (by rfl) (fun _ => by first | assumption | exact HS0 _ rfl | exact HT.out _ (by repeat (first | exact Fr.refl _ _ | apply Fr.drew | refine Fr.alloc ?_ _))) ?_ ?_
                      rotate_left 1
                      · intro w; go_simp <;> with_reducible rfl
                      try simp only [Act.put, List.setIfInBounds_toArray, List.set_cons_zero, List.set_cons_succ]
                      refine rt_done (by kernel_rfl) ?_
                      go_wp2_with fail
                      go_roundw
                      case rel =>
                        refine ⟨k + 1, by omega, by go_num, ?_, HG.out.trans Fc.out⟩
                        rw [cdec_iff HNX9.out, cdec_false (fun h => HCL.out h.2.1)]
                      case measure => simp [intOf]; omega
                  · rw [cdec_false hq]
                    have HQ := Lib.hid hq
                    clear hq
                    go_wp2_with fail
                    refine rt_start [] (At St) 32 (by kernel_rfl) rfl ?_
                    refine rt_free 0 (v := ?_) rfl (by kernel_rfl) (by kernel_rfl) (by kernel_rfl) (by kernel_rfl) (fun _ _ _ h => h) (by rfl) (fun _ => by first | assumption | exact HS0 _ rfl | exact HT.out _ (by repeat (first | exact Fr.refl _ _ | apply Fr.drew | refine Fr.alloc ?_ _))) ?_ ?_
                    rotate_left 1
                    · intro w; go_simp <;> with_reducible rfl
                    try simp only [Act.put, List.setIfInBounds_toArray, List.set_cons_zero, List.set_cons_succ]
                    refine rt_free 1 (v := ?_) rfl (by kernel_rfl) (by kernel_rfl) (by kernel_rfl) (by kernel_rfl) (fun _ _ _ h => h) (by rfl) (fun _ => by first | assumption | exact HS0 _ rfl | exact HT.out _ (by repeat (first | exact Fr.refl _ _ | apply Fr.drew | refine Fr.alloc ?_ _))) ?_ ?_
                    rotate_left 1
                    · intro w; go_simp <;> with_reducible rfl
                    try simp only [Act.put, List.setIfInBounds_toArray, List.set_cons_zero, List.set_cons_succ]
                    refine rt_skip 2 rfl (by kernel_rfl) (by kernel_rfl) (by kernel_rfl) (by kernel_rfl) (fun _ _ _ h => h) (by rfl) (fun _ => by first | assumption | exact HS0 _ rfl | exact HT.out _ (by repeat (first | exact Fr.refl _ _ | apply Fr.drew | refine Fr.alloc ?_ _))) ?_
                    try simp only [Act.put, List.setIfInBounds_toArray, List.set_cons_zero, List.set_cons_succ]
                    refine rt_skip 3 rfl (by kernel_rfl) (by kernel_rfl) (by kernel_rfl) (by kernel_rfl) (fun _ _ _ h => h) (by rfl) (fun _ => by first | assumption | exact HS0 _ rfl | exact HT.out _ (by repeat (first | exact Fr.refl _ _ | apply Fr.drew | refine Fr.alloc ?_ _))) ?_
                    try simp only [Act.put, List.setIfInBounds_toArray, List.set_cons_zero, List.set_cons_succ]
                    refine rt_skip 4 rfl (by kernel_rfl) (by kernel_rfl) (by kernel_rfl) (by kernel_rfl) (fun _ _ _ h => h) (by rfl) (fun _ => by first | assumption | exact HS0 _ rfl | exact HT.out _ (by repeat (first | exact Fr.refl _ _ | apply Fr.drew | refine Fr.alloc ?_ _))) ?_
                    try simp only [Act.put, List.setIfInBounds_toArray, List.set_cons_zero, List.set_cons_succ]
                    refine rt_skip 5 rfl (by kernel_rfl) (by kernel_rfl) (by kernel_rfl) (by kernel_rfl) (fun _ _ _ h => h) (by rfl) (fun _ => by first | assumption | exact HS0 _ rfl | exact HT.out _ (by repeat (first | exact Fr.refl _ _ | apply Fr.drew | refine Fr.alloc ?_ _))) ?_
                    try simp only [Act.put, List.setIfInBounds_toArray, List.set_cons_zero, List.set_cons_succ]
                    refine rt_skip 6 rfl (by kernel_rfl) (by kernel_rfl) (by kernel_rfl) (by kernel_rfl) (fun _ _ _ h => h) (by rfl) (fun _ => by first | assumption | exact HS0 _ rfl | exact HT.out _ (by repeat (first | exact Fr.refl _ _ | apply Fr.drew | refine Fr.alloc ?_ _))) ?_
                    try simp only [Act.put, List.setIfInBounds_toArray, List.set_cons_zero, List.set_cons_succ]
                    refine rt_skip 7 rfl (by kernel_rfl) (by kernel_rfl) (by kernel_rfl) (by kernel_rfl) (fun _ _ _ h => h) (by rfl) (fun _ => by first | assumption | exact HS0 _ rfl | exact HT.out _ (by repeat (first | exact Fr.refl _ _ | apply Fr.drew | refine Fr.alloc ?_ _))) ?_
                    try simp only [Act.put, List.setIfInBounds_toArray, List.set_cons_zero, List.set_cons_succ]
                    refine rt_skip 8 rfl (by kernel_rfl) (by kernel_rfl) (by kernel_rfl) (by kernel_rfl) (fun _ _ _ h => h) (by rfl) (fun _ => by first | assumption | exact HS0 _ rfl | exact HT.out _ (by repeat (first | exact Fr.refl _ _ | apply Fr.drew | refine Fr.alloc ?_ _))) ?_
                    try simp only [Act.put, List.setIfInBounds_toArray, List.set_cons_zero, List.set_cons_succ]
                    refine rt_skip 9 rfl (by kernel_rfl) (by kernel_rfl) (by kernel_rfl) (by kernel_rfl) (fun _ _ _ h => h) (by rfl) (fun _ => by first | assumption | exact HS0 _ rfl | exact HT.out _ (by repeat (first | exact Fr.refl _ _ | apply Fr.drew | refine Fr.alloc ?_ _))) ?_
                    try simp only [Act.put, List.setIfInBounds_toArray, List.set_cons_zero, List.set_cons_succ]
                    refine rt_skip 10 rfl (by kernel_rfl) (by kernel_rfl) (by kernel_rfl) (by kernel_rfl) (fun _ _ _ h => h) (by rfl) (fun _ => by first | assumption | exact HS0 _ rfl | exact HT.out _ (by repeat (first | exact Fr.refl _ _ | apply Fr.drew | refine Fr.alloc ?_ _))) ?_
                    try simp only [Act.put, List.setIfInBounds_toArray, List.set_cons_zero, List.set_cons_succ]
                    refine rt_skip 11 rfl (by kernel_rfl) (by kernel_rfl) (by kernel_rfl) (by kernel_rfl) (fun _ _ _ h => h) (by rfl) (fun _ => by first | assumption | exact HS0 _ rfl | exact HT.out _ (by repeat (first | exact Fr.refl _ _ | apply Fr.drew | refine Fr.alloc ?_ _))) ?_
                    try simp only [Act.put, List.setIfInBounds_toArray, List.set_cons_zero, List.set_cons_succ]
                    refine rt_skip 12 rfl (by kernel_rfl) (by kernel_rfl) (by kernel_rfl) (by kernel_rfl) (fun _ _ _ h => h) (by rfl) (fun _ => by first | assumption | exact HS0 _ rfl | exact HT.out _ (by repeat (first | exact Fr.refl _ _ | apply Fr.drew | refine Fr.alloc ?_ _))) ?_
                    try simp only [Act.put, List.setIfInBounds_toArray, List.set_cons_zero, List.set_cons_succ]
                    refine rt_skip 13 rfl (by kernel_rfl) (by kernel_rfl) (by kernel_rfl) (by kernel_rfl) (fun _ _ _ h => h) (by rfl) (fun _ => by first | assumption | exact HS0 _ rfl | exact HT.out _ (by repeat (first | exact Fr.refl _ _ | apply Fr.drew | refine Fr.alloc ?_ _))) ?_
                    try simp only [Act.put, List.setIfInBounds_toArray, List.set_cons_zero, List.set_cons_succ]
                    refine rt_skip 14 rfl (by kernel_rfl) (by kernel_rfl) (by kernel_rfl) (by kernel_rfl) (fun _ _ _ h => h) (by rfl) (fun _ => by first | assumption | exact HS0 _ rfl | exact HT.out _ (by repeat (first | exact Fr.refl _ _ | apply Fr.drew | refine Fr.alloc ?_ _))) ?_
                    try simp only [Act.put, List.setIfInBounds_toArray, List.set_cons_zero, List.set_cons_succ]
                    refine rt_free 15 (v := ?_) rfl (by kernel_rfl) (by kernel_rfl) (by kernel_rfl) (by kernel_rfl) (fun _ _ _ h => h) (by rfl) (fun _ => by first | assumption | exact HS0 _ rfl | exact HT.out _ (by repeat (first | exact Fr.refl _ _ | apply Fr.drew | refine Fr.alloc ?_ _))) ?_ ?_
                    rotate_left 1
                    · intro w; go_simp <;> with_reducible rfl
                    try simp only [Act.put, List.setIfInBounds_toArray, List.set_cons_zero, List.set_cons_succ]
                    refine rt_free 16 (v := ?_) rfl (by kernel_rfl) (by kernel_rfl) (by kernel_rfl) (by kernel_rfl) (fun _ _ _ h => h) (by rfl) (fun _ => by first | assumption | exact HS0 _ rfl | exact HT.out _ (by repeat (first | exact Fr.refl _ _ | apply Fr.drew | refine Fr.alloc ?_ _))) ?_ ?_
                    rotate_left 1
                    · intro w; go_simp <;> with_reducible rfl
                    try simp only [Act.put, List.setIfInBounds_toArray, List.set_cons_zero, List.set_cons_succ]
                    refine rt_skip 17 rfl (by kernel_rfl) (by kernel_rfl) (by kernel_rfl) (by kernel_rfl) (fun _ _ _ h => h) (by rfl) (fun _ => by first | assumption | exact HS0 _ rfl | exact HT.out _ (by repeat (first | exact Fr.refl _ _ | apply Fr.drew | refine Fr.alloc ?_ _))) ?_
                    try simp only [Act.put, List.setIfInBounds_toArray, List.set_cons_zero, List.set_cons_succ]
                    refine rt_skip 18 rfl (by kernel_rfl) (by kernel_rfl) (by kernel_rfl) (by kernel_rfl) (fun _ _ _ h => h) (by rfl) (fun _ => by first | assumption | exact HS0 _ rfl | exact HT.out _ (by repeat (first | exact Fr.refl _ _ | apply Fr.drew | refine Fr.alloc ?_ _))) ?_
                    try simp only [Act.put, List.setIfInBounds_toArray, List.set_cons_zero, List.set_cons_succ]
                    refine rt_skip 19 rfl (by kernel_rfl) (by kernel_rfl) (by kernel_rfl) (by kernel_rfl) (fun _ _ _ h => h) (by rfl) (fun _ => by first | assumption | exact HS0 _ rfl | exact HT.out _ (by repeat (first | exact Fr.refl _ _ | apply Fr.drew | refine Fr.alloc ?_ _))) ?_
                    try simp only [Act.put, List.setIfInBounds_toArray, List.set_cons_zero, List.set_cons_succ]
                    refine rt_skip 20 rfl (by kernel_rfl) (by kernel_rfl) (by kernel_rfl) (by kernel_rfl) (fun _ _ _ h => h) (by rfl) (fun _ => by first | assumption | exact HS0 _ rfl | exact HT.out _ (by repeat (first | exact Fr.refl _ _ | apply Fr.drew | refine Fr.alloc ?_ _))) ?_
                    try simp only [Act.put, List.setIfInBounds_toArray, List.set_cons_zero, List.set_cons_succ]
                    refine rt_skip 21 rfl (by kernel_rfl) (by kernel_rfl) (by kernel_rfl) (by kernel_rfl) (fun _ _ _ h => h) (by rfl) (fun _ => by first | assumption | exact HS0 _ rfl | exact HT.out _ (by repeat (first | exact Fr.refl _ _ | apply Fr.drew | refine Fr.alloc ?_ _))) ?_
                    try simp only [Act.put, List.setIfInBounds_toArray, List.set_cons_zero, List.set_cons_succ]
                    refine rt_skip 22 rfl (by kernel_rfl) (by kernel_rfl) (by kernel_rfl) (by kernel_rfl) (fun _ _ _ h => h) (by rfl) (fun _ => by first | assumption | exact HS0 _ rfl | exact HT.out _ (by repeat (first | exact Fr.refl _ _ | apply Fr.drew | refine Fr.alloc ?_ _))) ?_
                    try simp only [Act.put, List.setIfInBounds_toArray, List.set_cons_zero, List.set_cons_succ]
                    refine rt_skip 23 rfl (by kernel_rfl) (by kernel_rfl) (by kernel_rfl) (by kernel_rfl) (fun _ _ _ h => h) (by rfl) (fun _ => by first | assumption | exact HS0 _ rfl | exact HT.out _ (by repeat (first | exact Fr.refl _ _ | apply Fr.drew | refine Fr.alloc ?_ _))) ?_
                    try simp only [Act.put, List.setIfInBounds_toArray, List.set_cons_zero, List.set_cons_succ]
                    refine rt_skip 24 rfl (by kernel_rfl) (by kernel_rfl) (by kernel_rfl) (by kernel_rfl) (fun _ _ _ h => h) (by rfl) (fun _ => by first | assumption | exact HS0 _ rfl | exact HT.out _ (by repeat (first | exact Fr.refl _ _ | apply Fr.drew | refine Fr.alloc ?_ _))) ?_
                    try simp only [Act.put, List.setIfInBounds_toArray, List.set_cons_zero, List.set_cons_succ]
                    refine rt_skip 25 rfl (by kernel_rfl) (by kernel_rfl) (by kernel_rfl) (by kernel_rfl) (fun _ _ _ h => h) (by rfl) (fun _ => by first | assumption | exact HS0 _ rfl | exact HT.out _ (by repeat (first | exact Fr.refl _ _ | apply Fr.drew | refine Fr.alloc ?_ _))) ?_
                    try simp only [Act.put, List.setIfInBounds_toArray, List.set_cons_zero, List.set_cons_succ]
                    refine rt_skip 26 rfl (by kernel_rfl) (by kernel_rfl) (by kernel_rfl) (by kernel_rfl) (fun _ _ _ h => h) (by rfl) (fun _ => by first | assumption | exact HS0 _ rfl | exact HT.out _ (by repeat (first | exact Fr.refl _ _ | apply Fr.drew | refine Fr.alloc ?_ _))) ?_
                    try simp only [Act.put, List.setIfInBounds_toArray, List.set_cons_zero, List.set_cons_succ]
                    refine rt_skip 27 rfl (by kernel_rfl) (by kernel_rfl) (by kernel_rfl) (by kernel_rfl) (fun _ _ _ h => h) (by rfl) (fun _ => by first | assumption | exact HS0 _ rfl | exact HT.out _ (by repeat (first | exact Fr.refl _ _ | apply Fr.drew | refine Fr.alloc ?_ _))) ?_
                    try simp only [Act.put, List.setIfInBounds_toArray, List.set_cons_zero, List.set_cons_succ]
                    refine rt_skip 28 rfl (by kernel_rfl) (by kernel_rfl) (by kernel_rfl) (by kernel_rfl) (fun _ _ _ h => h) (by rfl) (fun _ => by first | assumption | exact HS0 _ rfl | exact HT.out _ (by repeat (first | exact Fr.refl _ _ | apply Fr.drew | refine Fr.alloc ?_ _))) ?_
                    try simp only [Act.put, List.setIfInBounds_toArray, List.set_cons_zero, List.set_cons_succ]
                    refine rt_skip 29 rfl (by kernel_rfl) (by kernel_rfl) (by kernel_rfl) (by kernel_rfl) (fun _ _ _ h => h) (by rfl) (fun _ => by first | assumption | exact HS0 _ rfl | exact HT.out _ (by repeat (first | exact Fr.refl _ _ | apply Fr.drew | refine Fr.alloc ?_ _))) ?_
                    try simp only [Act.put, List.setIfInBounds_toArray, List.set_cons_zero, List.set_cons_succ]
                    refine rt_free 30 (v := ?_) rfl (by kernel_rfl) (by kernel_rfl) (by kernel_rfl) (by kernel_rfl) (fun _ _ _ h => h) (by rfl) (fun _ => by first | assumption | exact HS0 _ rfl | exact HT.out _ (by repeat (first | exact Fr.refl _ _ | apply Fr.drew | refine Fr.alloc ?_ _))) ?_ ?_
                    rotate_left 1
                    · intro w; go_simp <;> with_reducible rfl
                    try simp only [Act.put, List.setIfInBounds_toArray, List.set_cons_zero, List.set_cons_succ]
                    refine rt_free 31 (v := ?_) rfl (by kernel_rfl) (by kernel_rfl) (by kernel_rfl) (by kernel_rfl) (fun _ _ _ h => h) (by rfl) (fun _ => by first | assumption | exact HS0 _ rfl | exact HT.out _ (by repeat (first | exact Fr.refl _ _ | apply Fr.drew | refine Fr.alloc ?_ _))) ?_ ?_
                    rotate_left 1
                    · intro w; go_simp <;> with_reducible rfl
                    try simp only [Act.put, List.setIfInBounds_toArray, List.set_cons_zero, List.set_cons_succ]
                    refine rt_done (by kernel_rfl) ?_
                    go_wp2_with fail
                    go_roundw
                    case rel =>
                      refine ⟨k + 1, by omega, by go_num, ?_, HG.out.drew⟩
                      rw [cdec_iff HNX9.out, cdec_false (fun h => HQ.out h.1)]
                    case measure => simp [intOf]; omega
                · obtain rfl : K.length = k := by omega
                  have tkk : decide (K.length < K.length) = false := decide_eq_false (by omega)
                  have hw : cdec (∀ j, j < K.length → PKey (goodI L) (goodI M) (stx K j)) = cdec (SameH (runB (goodI L)).1 (runB (goodI M)).1) := by
                    rw [← HSK.out]
                    refine cdec_iff ⟨fun h s hs => ?_, fun h j hj => h _ (stx_mem hj)⟩
                    obtain ⟨j, hj, he⟩ := List.mem_iff_getElem.1 hs
                    rw [← he, ← stx_eq hj]
                    exact h j hj
                  rw [hw]
                  have hw2 : cdec (SameH (runB (goodI M)).1 (runB (goodI L)).1) = cdec (SameH (runB (goodI L)).1 (runB (goodI M)).1) := cdec_iff ⟨SameH.symm, SameH.symm⟩
                  have HW2 := Lib.hid hw2
                  obtain ⟨y, hy⟩ : ∃ y, y = cdec (SameH (runB (goodI L)).1 (runB (goodI M)).1) := ⟨_, rfl⟩
                  rw [← hy] at HW2 ⊢
                  have HY := Lib.hid hy
                  have hbb : (y == y) = true := by cases y <;> rfl
                  clear hw hw2 hy
                  go_wp2_with fail
                  refine (vault_same g g' _ _ _ _ _ _ wr (HV8a.out.fr HG.out (fun _ _ h => h)) (HV8b.out.fr HG.out (fun _ _ h => h)) HGA.out HGB.out).mono ?_
                  rintro r W9 ⟨rfl, hF9⟩
                  rw [← HY.out]
                  have HF9 := Lib.hid (HG.out.trans hF9)
                  clear hF9
                  go_wp2_with fail
                  refine (vault_same g' g _ _ _ _ _ _ W9 (HV8b.out.fr HF9.out (fun _ _ h => h)) (HV8a.out.fr HF9.out (fun _ _ h => h)) HGB.out HGA.out).mono ?_
                  rintro r W10 ⟨rfl, hF10⟩
                  rw [HW2.out]
                  have HF10 := Lib.hid (HF9.out.trans hF10)
                  clear hF10
                  go_wp2_with fail
                  refine (works13 _).mono ?_
                  rintro r W11 ⟨rfl, hF11⟩
                  have HF11 := Lib.hid (HF10.out.trans hF11)
                  clear hF11
                  go_wp2_with fail
                  go_ret
                  exact ⟨rfl, HF8.out.trans HF11.out⟩
end Go.Proofs.Ytoklncfdhlplkaa
