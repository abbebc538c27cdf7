/- Texts of VaultSwaps, merged (8 of 8): Ref13C, Works13, Swaps13, OpenT, OpenS, OpenC, OpenW, OpenV, Law. -/
import Derived.Test.YtepfhcimmbkilaaGVaultSwaps7
import Derived.Test.YtepfhcimmbkilaaGVaultSwaps6
import Derived.Test.YtepfhcimmbkilaaGVaultSwaps4
import Derived.Test.YtepfhcimmbkilaaGVaultSwaps1
import Derived.Test.YtepfhcimmbkilaaGVaultSwaps5
import Derived.ProofKit
import Derived.OpenShut
set_option linter.unusedVariables false
set_option linter.unusedSimpArgs false
/- Results: that they are the same is told. -/
namespace Go.Proofs.Ytepfhcimmbkilaa
open Go.RowKit
open Go.Proofs.YtepfhcimmbkilaaW.PrintWords

def rsx (L : List Rs) (i : Nat) : Rs := L.getD i ((0, 0), 0, (false, 0))
theorem rsx_eq {L : List Rs} {i : Nat} (h : i < L.length) : rsx L i = L[i] := by unfold rsx; rw [List.getD_eq_getElem?_getD, List.getElem?_eq_getElem h]; rfl
theorem rsx_mem {L : List Rs} {i : Nat} (h : i < L.length) : rsx L i ∈ L := by rw [rsx_eq h]; exact List.getElem_mem h
theorem ress_at {w : World} {A : Option Addr} {n : Nat} {L : List Rs} (h : resK.C w A n L) {i : Nat} (hi : i < n) :
    ∃ b off, A = some ⟨b, off, none⟩ ∧ w.cell? ⟨b, off + i * 5, none⟩ = some (.int .i64 (rsx L i).1.1) ∧ w.cell? ⟨b, off + i * 5 + 1, none⟩ = some (.int .i64 (rsx L i).1.2) ∧ w.cell? ⟨b, off + i * 5 + 2, none⟩ = some (.int .i64 (rsx L i).2.1) ∧
      w.cell? ⟨b, off + i * 5 + 3, none⟩ = some (.bool (rsx L i).2.2.1) ∧ w.cell? ⟨b, off + i * 5 + 3 + 1, none⟩ = some (.float .f64 (rsx L i).2.2.2) := by
  obtain ⟨b, off, c, hi', hA, hc, hk, hcell⟩ := C_at h (by decide) hi
  rw [← rsx_eq hi'] at hk
  have hk := resK_K hk
  subst hk
  have hs : resK.sz = 5 := rfl
  rw [hs] at hcell
  exact ⟨b, off, hA, hcell 0 _ rfl, hcell 1 _ rfl, hcell 2 _ rfl, hcell 3 _ rfl, hcell 4 _ rfl⟩
def absR (x : Rs) : Rs := (x.1, x.2.1, absC x.2.2)
theorem absR_at {L L' : List Rs} (h : L.map absR = L'.map absR) {i : Nat} (hi : i < L.length) : absR (rsx L i) = absR (rsx L' i) := by
  have hl : L.length = L'.length := by have := congrArg List.length h; simpa using this
  have h1 : (L.map absR)[i]? = (L'.map absR)[i]? := by rw [h]
  rw [List.getElem?_map, List.getElem?_map, List.getElem?_eq_getElem hi, List.getElem?_eq_getElem (by omega), ← rsx_eq hi, ← rsx_eq (by omega)] at h1
  exact Option.some.inj h1
set_option maxRecDepth 100000 in
set_option maxHeartbeats 4000000 in
theorem same_results (A A' : Option Addr) (n c n' c' : Nat) (L L' : List Rs) (w : World) (h : resK.C w A n L) (h' : resK.C w A' n' L') (hs : L.map absR = L'.map absR) (ho : ∀ x ∈ L, CellOk x.2.2) (ho' : ∀ x ∈ L', CellOk x.2.2) :
    Calls Try.prog 11 #[.slice A n c, .slice A' n' c'] w fun r w' => r = .returned (.bool true) ∧ Fr (fun _ => False) w w' := by
  have hmx : n ≤ 9223372036854775807 := h.2.1
  have hl : L.length = n := h.1
  have hnn : n' = n := by have h1 := congrArg List.length hs; have h2 : L'.length = n' := h'.1; simp at h1; omega
  subst hnn
  have HL := Lib.hid hl
  have HL' := Lib.hid (show L'.length = n' from h'.1)
  have HC := Lib.hid h
  have HC' := Lib.hid h'
  have HS := Lib.hid hs
  have HO := Lib.hid ho
  have HO' := Lib.hid ho'
  clear hl h h' hs ho ho'
  go_enter Try.func11, Try.ntmps11
  go_wp2_with fail
  go_loopw [5] (fun i wr => ∃ k : Nat, k ≤ n' ∧ i = .int .i64 k ∧ Fr (fun _ => False) w wr) (fun i _ => n' - (intOf i).toNat)
  case atStart => exact ⟨0, Nat.zero_le _, rfl, Fr.refl _ _⟩
  case round =>
    obtain ⟨k, hk, rfl, hG⟩ := hrel
    have HG := Lib.hid hG
    clear hG
    rcases Nat.lt_or_ge k n' with hlt | hge
    · obtain ⟨b, off, rfl, h0, h1, h2, h3, h4⟩ := ress_at HC.out hlt
      obtain ⟨b', off', rfl, h0', h1', h2', h3', h4'⟩ := ress_at HC'.out hlt
      have hab := absR_at HS.out (i := k) (by rw [HL.out]; exact hlt)
      have e1 : (rsx L k).1 = (rsx L' k).1 := (Prod.mk.inj hab).1
      have e2 : (rsx L k).2.1 = (rsx L' k).2.1 := (Prod.mk.inj (Prod.mk.inj hab).2).1
      have e3 : absC (rsx L k).2.2 = absC (rsx L' k).2.2 := (Prod.mk.inj (Prod.mk.inj hab).2).2
      rw [e1] at h0 h1
      rw [e2] at h2
      have HE3 := Lib.hid e3
      have HP := Lib.hid (HO.out _ (rsx_mem (i := k) (by rw [HL.out]; exact hlt)))
      have HP' := Lib.hid (HO'.out _ (rsx_mem (i := k) (by rw [HL'.out]; exact hlt)))
      have hne : ∀ w, (binOp .neq 27 (.agg #[.int .i64 (rsx L' k).1.1, .int .i64 (rsx L' k).1.2]) (.agg #[.int .i64 (rsx L' k).1.1, .int .i64 (rsx L' k).1.2])).run Try.prog w = .ok (.bool false) w := fun w => by
        rw [neqId, decide_eq_true rfl]; rfl
      obtain ⟨St, hSt⟩ : ∃ St : World → Prop, St = Fr (fun _ => False) wr := ⟨_, rfl⟩
      have HT := Lib.hid (show ∀ w', Fr (fun _ => False) wr w' → At St w' from fun w' h => by unfold At; rw [hSt]; exact h)
      have lift : ∀ (q : Addr) (u : Value), w.cell? q = some u → ∀ w', At St w' → w'.cell? q = some u := fun q u hq w' h => by replace h := h.out; rw [hSt] at h; exact (HG.out.trans h).cell hq (fun h => h)
      have l0 := lift _ _ h0
      have l1 := lift _ _ h1
      have l2 := lift _ _ h2
      have l3 := lift _ _ h3
      have l4 := lift _ _ h4
      have m0 := lift _ _ h0'
      have m1 := lift _ _ h1'
      have m2 := lift _ _ h2'
      have m3 := lift _ _ h3'
      have m4 := lift _ _ h4'
      have hT0 := HT.out wr.drew (Fr.refl _ _).drew
      clear lift hSt h0 h1 h2 h3 h4 h0' h1' h2' h3' h4' e1 e2 e3 hab
      go_wp2_with fail
      refine rt_start [] (At St) 38 (by kernel_rfl) rfl ?_
      refine rt_free 0 (v := ?_) rfl (by kernel_rfl) (by kernel_rfl) (by kernel_rfl) (by kernel_rfl) (fun _ _ _ h => h) (by rfl) (fun _ => by first | assumption | exact HS0 _ rfl | exact HT.out _ (by repeat (first | exact Fr.refl _ _ | apply Fr.drew | refine Fr.alloc ?_ _))) ?_ ?_
      rotate_left 1
      · intro w; go_simp <;> with_reducible rfl
      try simp only [Act.put, List.setIfInBounds_toArray, List.set_cons_zero, List.set_cons_succ]
      refine rt_free 1 (v := ?_) rfl (by kernel_rfl) (by kernel_rfl) (by kernel_rfl) (by kernel_rfl) (fun _ _ _ h => h) (by rfl) (fun _ => by first | assumption | exact HS0 _ rfl | exact HT.out _ (by repeat (first | exact Fr.refl _ _ | apply Fr.drew | refine Fr.alloc ?_ _))) ?_ ?_
      rotate_left 1
      · intro w; go_simp <;> with_reducible rfl
      try simp only [Act.put, List.setIfInBounds_toArray, List.set_cons_zero, List.set_cons_succ]
      refine rt_free 2 (v := ?_) rfl (by kernel_rfl) (by kernel_rfl) (by kernel_rfl) (by kernel_rfl) (fun _ _ _ h => h) (by rfl) (fun _ => by first | assumption | exact HS0 _ rfl | exact HT.out _ (by repeat (first | exact Fr.refl _ _ | apply Fr.drew | refine Fr.alloc ?_ _))) ?_ ?_
      rotate_left 1
      · intro w; go_simp <;> with_reducible rfl
      try simp only [Act.put, List.setIfInBounds_toArray, List.set_cons_zero, List.set_cons_succ]
      refine rt_free 3 (v := ?_) rfl (by kernel_rfl) (by kernel_rfl) (by kernel_rfl) (by kernel_rfl) (fun _ _ _ h => h) (by rfl) (fun _ => by first | assumption | exact HS0 _ rfl | exact HT.out _ (by repeat (first | exact Fr.refl _ _ | apply Fr.drew | refine Fr.alloc ?_ _))) ?_ ?_
      rotate_left 1
      · intro w; go_simp <;> with_reducible rfl
      try simp only [Act.put, List.setIfInBounds_toArray, List.set_cons_zero, List.set_cons_succ]
      refine rt_take 4 (v := ?_) rfl (by kernel_rfl) (by kernel_rfl) (by kernel_rfl) (by kernel_rfl) (fun _ _ _ h => h) (by rfl) (by first | assumption | exact HS0 _ rfl | exact HT.out _ (by repeat (first | exact Fr.refl _ _ | apply Fr.drew | refine Fr.alloc ?_ _))) ?_ ?_
      rotate_left 1
      · intro w hSw; go_simp <;> with_reducible rfl
      try simp only [Act.put, List.setIfInBounds_toArray, List.set_cons_zero, List.set_cons_succ]
      refine rt_free 5 (v := ?_) rfl (by kernel_rfl) (by kernel_rfl) (by kernel_rfl) (by kernel_rfl) (fun _ _ _ h => h) (by rfl) (fun _ => by first | assumption | exact HS0 _ rfl | exact HT.out _ (by repeat (first | exact Fr.refl _ _ | apply Fr.drew | refine Fr.alloc ?_ _))) ?_ ?_
      rotate_left 1
      · intro w; go_simp <;> with_reducible rfl
      try simp only [Act.put, List.setIfInBounds_toArray, List.set_cons_zero, List.set_cons_succ]
      refine rt_free 6 (v := ?_) rfl (by kernel_rfl) (by kernel_rfl) (by kernel_rfl) (by kernel_rfl) (fun _ _ _ h => h) (by rfl) (fun _ => by first | assumption | exact HS0 _ rfl | exact HT.out _ (by repeat (first | exact Fr.refl _ _ | apply Fr.drew | refine Fr.alloc ?_ _))) ?_ ?_
      rotate_left 1
      · intro w; go_simp <;> with_reducible rfl
      try simp only [Act.put, List.setIfInBounds_toArray, List.set_cons_zero, List.set_cons_succ]
      refine rt_free 7 (v := ?_) rfl (by kernel_rfl) (by kernel_rfl) (by kernel_rfl) (by kernel_rfl) (fun _ _ _ h => h) (by rfl) (fun _ => by first | assumption | exact HS0 _ rfl | exact HT.out _ (by repeat (first | exact Fr.refl _ _ | apply Fr.drew | refine Fr.alloc ?_ _))) ?_ ?_
      rotate_left 1
      · intro w; go_simp <;> with_reducible rfl
      try simp only [Act.put, List.setIfInBounds_toArray, List.set_cons_zero, List.set_cons_succ]
      refine rt_free 8 (v := ?_) rfl (by kernel_rfl) (by kernel_rfl) (by kernel_rfl) (by kernel_rfl) (fun _ _ _ h => h) (by rfl) (fun _ => by first | assumption | exact HS0 _ rfl | exact HT.out _ (by repeat (first | exact Fr.refl _ _ | apply Fr.drew | refine Fr.alloc ?_ _))) ?_ ?_
      rotate_left 1
      · intro w; go_simp <;> with_reducible rfl
      try simp only [Act.put, List.setIfInBounds_toArray, List.set_cons_zero, List.set_cons_succ]
      refine rt_take 9 (v := ?_) rfl (by kernel_rfl) (by kernel_rfl) (by kernel_rfl) (by kernel_rfl) (fun _ _ _ h => h) (by rfl) (by first | assumption | exact HS0 _ rfl | exact HT.out _ (by repeat (first | exact Fr.refl _ _ | apply Fr.drew | refine Fr.alloc ?_ _))) ?_ ?_
      rotate_left 1
      · intro w hSw; go_simp <;> with_reducible rfl
      try simp only [Act.put, List.setIfInBounds_toArray, List.set_cons_zero, List.set_cons_succ]
      refine rt_free 10 (v := ?_) rfl (by kernel_rfl) (by kernel_rfl) (by kernel_rfl) (by kernel_rfl) (fun _ _ _ h => h) (by rfl) (fun _ => by first | assumption | exact HS0 _ rfl | exact HT.out _ (by repeat (first | exact Fr.refl _ _ | apply Fr.drew | refine Fr.alloc ?_ _))) ?_ ?_
      rotate_left 1
      · intro w; go_simp <;> with_reducible rfl
      try simp only [Act.put, List.setIfInBounds_toArray, List.set_cons_zero, List.set_cons_succ]
      refine rt_free 11 (v := ?_) rfl (by kernel_rfl) (by kernel_rfl) (by kernel_rfl) (by kernel_rfl) (fun _ _ _ h => h) (by rfl) (fun _ => by first | assumption | exact HS0 _ rfl | exact HT.out _ (by repeat (first | exact Fr.refl _ _ | apply Fr.drew | refine Fr.alloc ?_ _))) ?_ ?_
      rotate_left 1
      · intro w; go_simp <;> with_reducible rfl
      try simp only [Act.put, List.setIfInBounds_toArray, List.set_cons_zero, List.set_cons_succ]
      refine rt_free 12 (v := ?_) rfl (by kernel_rfl) (by kernel_rfl) (by kernel_rfl) (by kernel_rfl) (fun _ _ _ h => h) (by rfl) (fun _ => by first | assumption | exact HS0 _ rfl | exact HT.out _ (by repeat (first | exact Fr.refl _ _ | apply Fr.drew | refine Fr.alloc ?_ _))) ?_ ?_
      rotate_left 1
      · intro w; go_simp <;> with_reducible rfl
      try simp only [Act.put, List.setIfInBounds_toArray, List.set_cons_zero, List.set_cons_succ]
      refine rt_free 13 (v := ?_) rfl (by kernel_rfl) (by kernel_rfl) (by kernel_rfl) (by kernel_rfl) (fun _ _ _ h => h) (by rfl) (fun _ => by first | assumption | exact HS0 _ rfl | exact HT.out _ (by repeat (first | exact Fr.refl _ _ | apply Fr.drew | refine Fr.alloc ?_ _))) ?_ ?_
      rotate_left 1
      · intro w; go_simp <;> with_reducible rfl
      try simp only [Act.put, List.setIfInBounds_toArray, List.set_cons_zero, List.set_cons_succ]
      refine rt_free 14 (v := ?_) rfl (by kernel_rfl) (by kernel_rfl) (by kernel_rfl) (by kernel_rfl) (fun _ _ _ h => h) (by rfl) (fun _ => by first | assumption | exact HS0 _ rfl | exact HT.out _ (by repeat (first | exact Fr.refl _ _ | apply Fr.drew | refine Fr.alloc ?_ _))) ?_ ?_
      rotate_left 1
      · intro w; go_simp <;> with_reducible rfl
      try simp only [Act.put, List.setIfInBounds_toArray, List.set_cons_zero, List.set_cons_succ]
      refine rt_free 15 (v := ?_) rfl (by kernel_rfl) (by kernel_rfl) (by kernel_rfl) (by kernel_rfl) (fun _ _ _ h => h) (by rfl) (fun _ => by first | assumption | exact HS0 _ rfl | exact HT.out _ (by repeat (first | exact Fr.refl _ _ | apply Fr.drew | refine Fr.alloc ?_ _))) ?_ ?_
      rotate_left 1
      · intro w; go_simp <;> with_reducible rfl
      try simp only [Act.put, List.setIfInBounds_toArray, List.set_cons_zero, List.set_cons_succ]
      refine rt_take 16 (v := ?_) rfl (by kernel_rfl) (by kernel_rfl) (by kernel_rfl) (by kernel_rfl) (fun _ _ _ h => h) (by rfl) (by first | assumption | exact HS0 _ rfl | exact HT.out _ (by repeat (first | exact Fr.refl _ _ | apply Fr.drew | refine Fr.alloc ?_ _))) ?_ ?_
      rotate_left 1
      · intro w hSw; go_simp <;> with_reducible rfl
      try simp only [Act.put, List.setIfInBounds_toArray, List.set_cons_zero, List.set_cons_succ]
      refine rt_free 17 (v := ?_) rfl (by kernel_rfl) (by kernel_rfl) (by kernel_rfl) (by kernel_rfl) (fun _ _ _ h => h) (by rfl) (fun _ => by first | assumption | exact HS0 _ rfl | exact HT.out _ (by repeat (first | exact Fr.refl _ _ | apply Fr.drew | refine Fr.alloc ?_ _))) ?_ ?_
      rotate_left 1
      · intro w; go_simp <;> with_reducible rfl
      try simp only [Act.put, List.setIfInBounds_toArray, List.set_cons_zero, List.set_cons_succ]
      refine rt_free 18 (v := ?_) rfl (by kernel_rfl) (by kernel_rfl) (by kernel_rfl) (by kernel_rfl) (fun _ _ _ h => h) (by rfl) (fun _ => by first | assumption | exact HS0 _ rfl | exact HT.out _ (by repeat (first | exact Fr.refl _ _ | apply Fr.drew | refine Fr.alloc ?_ _))) ?_ ?_
      rotate_left 1
      · intro w; go_simp <;> with_reducible rfl
      try simp only [Act.put, List.setIfInBounds_toArray, List.set_cons_zero, List.set_cons_succ]
      refine rt_free 19 (v := ?_) rfl (by kernel_rfl) (by kernel_rfl) (by kernel_rfl) (by kernel_rfl) (fun _ _ _ h => h) (by rfl) (fun _ => by first | assumption | exact HS0 _ rfl | exact HT.out _ (by repeat (first | exact Fr.refl _ _ | apply Fr.drew | refine Fr.alloc ?_ _))) ?_ ?_
      rotate_left 1
      · intro w; go_simp <;> with_reducible rfl
      try simp only [Act.put, List.setIfInBounds_toArray, List.set_cons_zero, List.set_cons_succ]
      refine rt_free 20 (v := ?_) rfl (by kernel_rfl) (by kernel_rfl) (by kernel_rfl) (by kernel_rfl) (fun _ _ _ h => h) (by rfl) (fun _ => by first | assumption | exact HS0 _ rfl | exact HT.out _ (by repeat (first | exact Fr.refl _ _ | apply Fr.drew | refine Fr.alloc ?_ _))) ?_ ?_
      rotate_left 1
      · intro w; go_simp <;> with_reducible rfl
      try simp only [Act.put, List.setIfInBounds_toArray, List.set_cons_zero, List.set_cons_succ]
      refine rt_take 21 (v := ?_) rfl (by kernel_rfl) (by kernel_rfl) (by kernel_rfl) (by kernel_rfl) (fun _ _ _ h => h) (by rfl) (by first | assumption | exact HS0 _ rfl | exact HT.out _ (by repeat (first | exact Fr.refl _ _ | apply Fr.drew | refine Fr.alloc ?_ _))) ?_ ?_
      rotate_left 1
      · intro w hSw; go_simp <;> with_reducible rfl
      try simp only [Act.put, List.setIfInBounds_toArray, List.set_cons_zero, List.set_cons_succ]
      refine rt_free 22 (v := ?_) rfl (by kernel_rfl) (by kernel_rfl) (by kernel_rfl) (by kernel_rfl) (fun _ _ _ h => h) (by rfl) (fun _ => by first | assumption | exact HS0 _ rfl | exact HT.out _ (by repeat (first | exact Fr.refl _ _ | apply Fr.drew | refine Fr.alloc ?_ _))) ?_ ?_
      rotate_left 1
      · intro w; go_simp <;> with_reducible rfl
      try simp only [Act.put, List.setIfInBounds_toArray, List.set_cons_zero, List.set_cons_succ]
      refine rt_free 23 (v := ?_) rfl (by kernel_rfl) (by kernel_rfl) (by kernel_rfl) (by kernel_rfl) (fun _ _ _ h => h) (by rfl) (fun _ => by first | assumption | exact HS0 _ rfl | exact HT.out _ (by repeat (first | exact Fr.refl _ _ | apply Fr.drew | refine Fr.alloc ?_ _))) ?_ ?_
      rotate_left 1
      · intro w; go_simp <;> with_reducible rfl
      try simp only [Act.put, List.setIfInBounds_toArray, List.set_cons_zero, List.set_cons_succ]
      refine rt_free 24 (v := ?_) rfl (by kernel_rfl) (by kernel_rfl) (by kernel_rfl) (by kernel_rfl) (fun _ _ _ h => h) (by rfl) (fun _ => by first | assumption | exact HS0 _ rfl | exact HT.out _ (by repeat (first | exact Fr.refl _ _ | apply Fr.drew | refine Fr.alloc ?_ _))) ?_ ?_
      rotate_left 1
      · intro w; go_simp <;> with_reducible rfl
      try simp only [Act.put, List.setIfInBounds_toArray, List.set_cons_zero, List.set_cons_succ]
      refine rt_free 25 (v := ?_) rfl (by kernel_rfl) (by kernel_rfl) (by kernel_rfl) (by kernel_rfl) (fun _ _ _ h => h) (by rfl) (fun _ => by first | assumption | exact HS0 _ rfl | exact HT.out _ (by repeat (first | exact Fr.refl _ _ | apply Fr.drew | refine Fr.alloc ?_ _))) ?_ ?_
      rotate_left 1
      · intro w; go_simp <;> with_reducible rfl
      try simp only [Act.put, List.setIfInBounds_toArray, List.set_cons_zero, List.set_cons_succ]
      refine rt_free 26 (v := ?_) rfl (by kernel_rfl) (by kernel_rfl) (by kernel_rfl) (by kernel_rfl) (fun _ _ _ h => h) (by rfl) (fun _ => by first | assumption | exact HS0 _ rfl | exact HT.out _ (by repeat (first | exact Fr.refl _ _ | apply Fr.drew | refine Fr.alloc ?_ _))) ?_ ?_
      rotate_left 1
      · intro w; go_simp <;> with_reducible rfl
      try simp only [Act.put, List.setIfInBounds_toArray, List.set_cons_zero, List.set_cons_succ]
      refine rt_free 27 (v := ?_) rfl (by kernel_rfl) (by kernel_rfl) (by kernel_rfl) (by kernel_rfl) (fun _ _ _ h => h) (by rfl) (fun _ => by first | assumption | exact HS0 _ rfl | exact HT.out _ (by repeat (first | exact Fr.refl _ _ | apply Fr.drew | refine Fr.alloc ?_ _))) ?_ ?_
      rotate_left 1
      · intro w; go_simp <;> with_reducible rfl
      try simp only [Act.put, List.setIfInBounds_toArray, List.set_cons_zero, List.set_cons_succ]
      refine rt_free 28 (v := ?_) rfl (by kernel_rfl) (by kernel_rfl) (by kernel_rfl) (by kernel_rfl) (fun _ _ _ h => h) (by rfl) (fun _ => by first | assumption | exact HS0 _ rfl | exact HT.out _ (by repeat (first | exact Fr.refl _ _ | apply Fr.drew | refine Fr.alloc ?_ _))) ?_ ?_
      rotate_left 1
      · intro w; go_simp <;> with_reducible rfl
      try simp only [Act.put, List.setIfInBounds_toArray, List.set_cons_zero, List.set_cons_succ]
      refine rt_take 29 (v := ?_) rfl (by kernel_rfl) (by kernel_rfl) (by kernel_rfl) (by kernel_rfl) (fun _ _ _ h => h) (by rfl) (by first | assumption | exact HS0 _ rfl | exact HT.out _ (by repeat (first | exact Fr.refl _ _ | apply Fr.drew | refine Fr.alloc ?_ _))) ?_ ?_
      rotate_left 1
      · intro w hSw; go_simp <;> with_reducible rfl
      try simp only [Act.put, List.setIfInBounds_toArray, List.set_cons_zero, List.set_cons_succ]
      refine rt_free 30 (v := ?_) rfl (by kernel_rfl) (by kernel_rfl) (by kernel_rfl) (by kernel_rfl) (fun _ _ _ h => h) (by rfl) (fun _ => by first | assumption | exact HS0 _ rfl | exact HT.out _ (by repeat (first | exact Fr.refl _ _ | apply Fr.drew | refine Fr.alloc ?_ _))) ?_ ?_
      rotate_left 1
      · intro w; go_simp <;> with_reducible rfl
      try simp only [Act.put, List.setIfInBounds_toArray, List.set_cons_zero, List.set_cons_succ]
      refine rt_free 31 (v := ?_) rfl (by kernel_rfl) (by kernel_rfl) (by kernel_rfl) (by kernel_rfl) (fun _ _ _ h => h) (by rfl) (fun _ => by first | assumption | exact HS0 _ rfl | exact HT.out _ (by repeat (first | exact Fr.refl _ _ | apply Fr.drew | refine Fr.alloc ?_ _))) ?_ ?_
      rotate_left 1
      · intro w; go_simp <;> with_reducible rfl
      try simp only [Act.put, List.setIfInBounds_toArray, List.set_cons_zero, List.set_cons_succ]
      refine rt_free 32 (v := ?_) rfl (by kernel_rfl) (by kernel_rfl) (by kernel_rfl) (by kernel_rfl) (fun _ _ _ h => h) (by rfl) (fun _ => by first | assumption | exact HS0 _ rfl | exact HT.out _ (by repeat (first | exact Fr.refl _ _ | apply Fr.drew | refine Fr.alloc ?_ _))) ?_ ?_
      rotate_left 1
      · intro w; go_simp <;> with_reducible rfl
      try simp only [Act.put, List.setIfInBounds_toArray, List.set_cons_zero, List.set_cons_succ]
      refine rt_free 33 (v := ?_) rfl (by kernel_rfl) (by kernel_rfl) (by kernel_rfl) (by kernel_rfl) (fun _ _ _ h => h) (by rfl) (fun _ => by first | assumption | exact HS0 _ rfl | exact HT.out _ (by repeat (first | exact Fr.refl _ _ | apply Fr.drew | refine Fr.alloc ?_ _))) ?_ ?_
      rotate_left 1
      · intro w; go_simp <;> with_reducible rfl
      try simp only [Act.put, List.setIfInBounds_toArray, List.set_cons_zero, List.set_cons_succ]
      refine rt_take 34 (v := ?_) rfl (by kernel_rfl) (by kernel_rfl) (by kernel_rfl) (by kernel_rfl) (fun _ _ _ h => h) (by rfl) (by first | assumption | exact HS0 _ rfl | exact HT.out _ (by repeat (first | exact Fr.refl _ _ | apply Fr.drew | refine Fr.alloc ?_ _))) ?_ ?_
      rotate_left 1
      · intro w hSw; go_simp <;> with_reducible rfl
      try simp only [Act.put, List.setIfInBounds_toArray, List.set_cons_zero, List.set_cons_succ]
      refine rt_one 35 rfl (by kernel_rfl) (fun K hK => ?_)
      go_simp
      refine (ref_cell_same (rsx L k).2.2 (rsx L' k).2.2 _ HP.out HP'.out).mono ?_
      rintro r W3 ⟨rfl, hF3⟩
      rw [decide_eq_true HE3.out]
      have HF3 := Lib.hid hF3
      have hT3 := HT.out _ ((Fr.refl _ _).drew.trans hF3)
      clear hF3
      go_wp2_with fail
      refine hK.out (At St) _ _ (fun _ h => h) (fun _ => by (assumption)) ?_
      clear hK K
      try simp only [Act.put, List.setIfInBounds_toArray, List.set_cons_zero, List.set_cons_succ]
      refine rt_free 36 (v := ?_) rfl (by kernel_rfl) (by kernel_rfl) (by kernel_rfl) (by kernel_rfl) (fun _ _ _ h => h) (by rfl) (fun _ => by first | assumption | exact HS0 _ rfl | exact HT.out _ (by repeat (first | exact Fr.refl _ _ | apply Fr.drew | refine Fr.alloc ?_ _))) ?_ ?_
      rotate_left 1
      · intro w; go_simp <;> with_reducible rfl
      try simp only [Act.put, List.setIfInBounds_toArray, List.set_cons_zero, List.set_cons_succ]
      refine rt_free 37 (v := ?_) rfl (by kernel_rfl) (by kernel_rfl) (by kernel_rfl) (by kernel_rfl) (fun _ _ _ h => h) (by rfl) (fun _ => by first | assumption | exact HS0 _ rfl | exact HT.out _ (by repeat (first | exact Fr.refl _ _ | apply Fr.drew | refine Fr.alloc ?_ _))) ?_ ?_
      rotate_left 1
      · intro w; go_simp <;> with_reducible rfl
      try simp only [Act.put, List.setIfInBounds_toArray, List.set_cons_zero, List.set_cons_succ]
      refine rt_done (by kernel_rfl) ?_
      clear l0 l1 l2 l3 l4 m0 m1 m2 m3 m4 hT0 hT3
      go_wp2_with fail
      go_roundw
      case rel => exact ⟨k + 1, by omega, by go_num, HG.out.trans ((Fr.refl _ _).drew.trans HF3.out)⟩
      case measure => simp [intOf]; omega
    · obtain rfl : n' = k := by omega
      have tnn : decide (n' < n') = false := decide_eq_false (by omega)
      go_wp2_with fail
      go_ret
      exact ⟨rfl, HG.out⟩
end Go.Proofs.Ytepfhcimmbkilaa
/- Layer 13's works. -/
namespace Go.Proofs.Ytepfhcimmbkilaa
open Go.RowKit
open Go.Proofs.YtepfhcimmbkilaaW.PrintWords

theorem vault_count (g n : Nat) (S : Nat → Prop) (H : List HE) (w : World) (h : VaultRep w S g H n) :
    Calls Try.prog 16 #[.pointer (some ⟨g, 0, none⟩)] w fun r w' => r = .returned (.int .i64 n) ∧ Fr (fun _ => False) w w' := by
  obtain ⟨mc, ml, F, Lh, hV⟩ := h
  have h2 : w.cell? ⟨g, 2, none⟩ = _ := hV.blk.cell 2
  clear hV
  go_enter Try.func16, Try.ntmps16
  go_wp2_with fail
  go_ret
  exact ⟨rfl, Fr.refl _ _⟩
abbrev c13a : Cmd := (2, kA, two64)
abbrev c13b : Cmd := (1, kA, 0)
abbrev B13 : List Cmd := [c13a, c13b]
theorem ok13a : cmdOk c13a := ⟨.inr (.inl rfl), keyA, fun h => by rcases h with h | h <;> cases h⟩
theorem ok13b : cmdOk c13b := ⟨.inl rfl, keyA, fun _ => rfl⟩
theorem bat13 : errBat B13 = 0 := errBat_ok (by decide) fun i hi => by
  have : i = 0 ∨ i = 1 := by have : B13.length = 2 := rfl; omega
  rcases this with rfl | rfl
  · exact ok13a
  · exact ok13b
theorem good13 : ∀ x ∈ B13, CmdGood x := fun x hx => by
  rcases List.mem_cons.1 hx with rfl | hx
  · exact ⟨by decide, by decide⟩
  · rw [List.mem_singleton.1 hx]; exact ⟨by decide, by decide⟩
theorem can13 : canonP two64 = two64 := by decide +kernel
theorem tag13 : ([] : List HE) ++ tagN (1, 1) B13 2 = [((1, 1), 0, c13a), ((1, 1), 1, c13b)] := rfl
theorem cell13a : cellOf [((1, 1), 0, c13a)] kA = (true, two64) := by
  show cellStep kA (false, 0) ((1, 1), 0, c13a) = _
  unfold cellStep
  rw [cdec_true rfl]
  show (doC (false, 0) c13a).1 = _
  rw [doC_put ok13a rfl]
  exact congrArg (Prod.mk true) can13
theorem cell13 : cellOf [((1, 1), 0, c13a), ((1, 1), 1, c13b)] kA = (true, two64) := by
  have h := cellOf_snoc [((1, 1), 0, c13a)] ((1, 1), 1, c13b) kA
  rw [cell13a] at h
  refine h.trans ?_
  unfold cellStep
  rw [cdec_true rfl]
  show (doC (true, two64) c13b).1 = _
  rw [doC_get ok13b rfl]
theorem log13 : (logOf [((1, 1), 0, c13a), ((1, 1), 1, c13b)] kA).length = 1 := by
  have h1 : logOf ([] ++ [((1, 1), 0, c13a)]) kA = logOf [] kA ++ [((1, 1), 0)] := logOf_yes ⟨rfl, ok13a, by decide⟩
  have h2 : logOf (([] ++ [((1, 1), 0, c13a)]) ++ [((1, 1), 1, c13b)]) kA = logOf ([] ++ [((1, 1), 0, c13a)]) kA := logOf_no fun h => h.2.2 rfl
  rw [h1] at h2
  exact (congrArg List.length h2).trans rfl
theorem told13 : toldN [] (1, 1) B13 2 = [((1, 1), 0, (false, 0)), ((1, 1), 1, (true, two64))] := by
  show [((1, 1), ((0 : Nat) : Int), (doC (cellOf ([] ++ tagN (1, 1) B13 0) kA) c13a).2), ((1, 1), ((1 : Nat) : Int), (doC (cellOf [((1, 1), 0, c13a)] kA) c13b).2)] = _
  rw [doC_put ok13a rfl, cell13a, doC_get ok13b rfl]
  rfl
set_option maxRecDepth 100000 in
set_option maxHeartbeats 4000000 in
theorem works13 (w : World) : Calls Try.prog 5 #[] w fun r w' => r = .returned (.bool true) ∧ Fr (fun _ => False) w w' := by
  have hf2 := feq_two
  have hd2 := field_two
  go_enter Try.func5, Try.ntmps5
  go_wp2_with fail
  refine (vault_new w).mono ?_
  rintro r w1 ⟨g, S, rfl, hV, hS, hF⟩
  have HV := Lib.hid hV
  have HS := Lib.hid hS
  have HF := Lib.hid hF
  clear hV hS hF
  go_wp2_with fail
  have hb1 := Blk.new w1 37 #[.int .i64 2, .string kA, .float .f64 two64, .int .i64 1, .string kA, .float .f64 0]
  have hF1 := (Fr.refl (fun _ => False) w1).alloc (.cells #[.int .i64 2, .string kA, .float .f64 two64, .int .i64 1, .string kA, .float .f64 0] 37)
  have hV1 := HV.out.fr hF1 (fun _ _ h => h)
  have hlt := HV.out.lt
  refine (vault_apply (1, 1) (some ⟨w1.heap.size, 0, none⟩) 2 2 B13 g 0 S [] _ hV1 (cmdFlat.blk_C (L := B13) hb1 (by decide)) (fun _ ad ha hs => by cases ha; exact absurd (hlt _ hs) (by simp)) good13 (fun _ h => by cases h) (by decide) (by decide)).mono ?_
  rintro r W2 (⟨he, v, S2, rfl, hV2, hS2, hF2, hR2⟩ | ⟨he, rfl, hF2⟩)
  · obtain ⟨A2, c2, rfl⟩ := Kd.R_slice hR2
    rw [show B13.length = 2 from rfl, told13] at hR2
    rw [show (toldN [] (1, 1) B13 B13.length).length = 2 from rfl]
    have hC2 : resK.C W2 A2 2 _ := (Kd.R_reads' hR2).2.2
    obtain ⟨b, off, rfl, _, _, _, k3, _⟩ := ress_at hC2 (i := 0) (by decide)
    obtain ⟨b', off', he', _, _, _, _, m4⟩ := ress_at hC2 (i := 1) (by decide)
    cases he'
    have hVt : VaultRep W2 S2 g [((1, 1), 0, c13a), ((1, 1), 1, c13b)] 1 := hV2
    have HV2 := Lib.hid hVt
    have hFa := Lib.hid ((HF.out.trans hF1).trans' hF2 (fun i hi h => by have := HS.out i h; omega))
    clear hV2 hF2 hR2 hC2 hb1 hF1 hV1 hlt hS2 hVt he
    replace k3 : W2.cell? ⟨b, off + 3, none⟩ = some (.bool false) := by rw [Nat.zero_mul, Nat.add_zero] at k3; exact k3
    replace m4 : W2.cell? ⟨b, off + 5 + 3 + 1, none⟩ = some (.float .f64 two64) := by rw [Nat.one_mul] at m4; exact m4
    go_wp2_with fail
    refine (vault_get g 1 S2 _ kA W2 HV2.out (by decide)).mono ?_
    rintro r W3 ⟨rfl, hF3⟩
    rw [cell13]
    have HF3 := Lib.hid hF3
    clear hF3
    go_wp2_with fail
    refine (vault_log g 1 S2 _ kA W3 (HV2.out.fr HF3.out (fun _ _ h => h)) (by decide) (by decide)).mono ?_
    rintro r W4 ⟨v4, rfl, hR4, hF4⟩
    obtain ⟨A4, c4, rfl⟩ := Kd.R_slice hR4
    rw [log13]
    have HF4 := Lib.hid (HF3.out.trans hF4)
    clear hF4 hR4
    go_wp2_with fail
    refine (vault_count g 1 S2 _ W4 (HV2.out.fr HF4.out (fun _ _ h => h))).mono ?_
    rintro r W5 ⟨rfl, hF5⟩
    have HF5 := Lib.hid (HF4.out.trans hF5)
    clear hF5
    go_wp2_with fail
    go_ret
    exact ⟨rfl, hFa.out.trans HF5.out⟩
  · exact absurd bat13 he
end Go.Proofs.Ytepfhcimmbkilaa
/- VaultSwaps' walk. -/
namespace Go.Proofs.Ytepfhcimmbkilaa
open Go.RowKit
open Go.Proofs.YtepfhcimmbkilaaW.PrintWords

theorem Applied.both {w w' : World} {S : Nat → Prop} {g m : Nat} {H : List HE} {id : Int × Int} {L : List Cmd} {r : Ending} (h : Applied w S g H m id L r w') (hV : VaultRep w S g H m) :
    ∃ v S' m', r = .returned (.tuple #[v, .int .i64 (errBat L)]) ∧ VaultRep w' S' g (apH H id L) m' ∧ m' ≤ m + 1 ∧ (∀ b, S' b → S b ∨ w.heap.size ≤ b) ∧ Fr S w w' ∧ resK.R 55 w' w.heap.size (fun b => ¬ S' b) v (apT H id L) := by
  unfold apH apT
  rcases h with ⟨he, v, S', h1, h2, h3, h4, h5⟩ | ⟨he, h1, h2⟩
  · rw [if_pos he, if_pos he, he]
    exact ⟨v, S', m + 1, h1, h2, Nat.le_refl _, h3, h4, h5⟩
  · rw [if_neg he, if_neg he]
    exact ⟨_, S, m, h1, hV.fr h2 (fun _ _ h => h), Nat.le_succ _, fun b hb => .inl hb, h2.mono (fun _ _ h => h.elim), Kd.R_nil _ _ _ _ _⟩
theorem apH_good {H : List HE} {L : List Cmd} (id : Int × Int) (h : HGood H) (hL : ∀ x ∈ L, CmdGood x) : HGood (apH H id L) := by
  unfold apH
  split
  · exact h.append (tagN_good (Nat.le_refl _) hL)
  · exact h
theorem apH_len (H : List HE) (id : Int × Int) (L : List Cmd) : (apH H id L).length ≤ H.length + 8 := by
  unfold apH
  split
  · rename_i he
    rw [List.length_append, tagN_len]
    have := errBat_len he
    omega
  · omega
theorem apT_ok {H : List HE} {L : List Cmd} {id : Int × Int} (h : HGood H) (hL : ∀ x ∈ L, CmdGood x) : ∀ x ∈ apT H id L, CellOk x.2.2 := by
  unfold apT
  split
  · intro x hx
    unfold toldN at hx
    obtain ⟨i, hi, rfl⟩ := List.mem_map.1 hx
    have hl := List.mem_range.1 hi
    exact (doC_canon (cellOf_canon (h.append (tagN_good (k := i) (by omega) hL)) _) (hL _ (cmx_mem hl))).2.1
  · intro x hx; cases hx
theorem stepI_ap (s : List HE × List Rs) (it : Item) : (stepI s it).1 = apH s.1 it.1 it.2 := by
  unfold stepI apH
  split <;> rfl
theorem res_step {S1 S2 Q : Nat → Prop} {wr W2 : World} {e : TypeId} {base : Nat} {u : Value} {xs : List Rs} (hR : resK.R e wr base (fun b => ¬ S1 b ∧ Q b) u xs) (hS2 : ∀ b, S2 b → S1 b ∨ wr.heap.size ≤ b) (hF : Fr S1 wr W2) : resK.R e W2 base (fun b => ¬ S2 b ∧ Q b) u xs :=
  Kd.R_mono (Kd.R_step (Kd.R_mono (Kd.R_bound hR) (ok' := fun b => (¬ S2 b ∧ Q b) ∧ ¬ S1 b) (fun b hb => ⟨⟨fun h => (hS2 b h).elim hb.1.1 (fun h => absurd hb.2.2.1 (by omega)), hb.1.2⟩, hb.1.1⟩)) (fun b hb hl => hF.block b hl hb.2)) (fun b hb => hb.1)
theorem res_step' {S1 S2 Q : Nat → Prop} {wr W2 : World} {e : TypeId} {base : Nat} {u : Value} {xs : List Rs} (hR : resK.R e wr base (fun b => Q b ∧ ¬ S1 b) u xs) (hS2 : ∀ b, S2 b → S1 b ∨ wr.heap.size ≤ b) (hF : Fr S1 wr W2) : resK.R e W2 base (fun b => Q b ∧ ¬ S2 b) u xs :=
  Kd.R_mono (res_step (Kd.R_mono hR (fun b hb => ⟨hb.2, hb.1⟩)) hS2 hF) (fun b hb => ⟨hb.2, hb.1⟩)
theorem Blk.newAt' (w : World) (n : Nat) (h : w.heap.size = n) (t : TypeId) (cs : Array Value) : Blk (w.alloc (.cells cs t)) n t cs := by subst h; exact Blk.new w t cs
set_option maxRecDepth 100000 in
set_option maxHeartbeats 8000000 in
theorem lawSwaps13 (A : Option Addr) (n c : Nat) (L : List Item) (a b : Item) (Aa Ab : Option Addr) (ca cb : Nat) (w : World) (hC : itemK.C w A n L) (hL : ItemsGood L)
    (hla : a.2.length ≤ ca) (hlb : b.2.length ≤ cb) (hCa : cmdK.C w Aa a.2.length a.2) (hCb : cmdK.C w Ab b.2.length b.2) (hOa : ∀ x ∈ a.2, CmdGood x) (hOb : ∀ x ∈ b.2, CmdGood x) :
    Calls Try.prog 4 #[.slice A n c, .agg #[.int .i64 a.1.1, .int .i64 a.1.2, .slice Aa a.2.length ca], .agg #[.int .i64 b.1.1, .int .i64 b.1.2, .slice Ab b.2.length cb]] w fun r w' => r = .returned (.bool true) ∧ Fr (fun _ => False) w w' := by
  have hmx : n ≤ 9223372036854775807 := hC.2.1
  have hmxa : a.2.length ≤ 9223372036854775807 := hCa.2.1
  have hmxb : b.2.length ≤ 9223372036854775807 := hCb.2.1
  have HLn := Lib.hid (show L.length = n from hC.1)
  have HC := Lib.hid hC
  have HO := Lib.hid hL
  have HCa0 := Lib.hid hCa
  have HCb0 := Lib.hid hCb
  have HOa := Lib.hid hOa
  have HOb := Lib.hid hOb
  have hWB := ((Fr.refl (fun _ => False) w).alloc (.cells #[.int .i64 a.1.1, .int .i64 a.1.2, .slice Aa a.2.length ca] 30)).alloc (.cells #[.int .i64 b.1.1, .int .i64 b.1.2, .slice Ab b.2.length cb] 30)
  have hX4 := (Blk.newAt' w _ rfl 30 #[.int .i64 a.1.1, .int .i64 a.1.2, .slice Aa a.2.length ca]).alloc (.cells #[.int .i64 b.1.1, .int .i64 b.1.2, .slice Ab b.2.length cb] 30)
  have hX5 := Blk.newAt' (w.alloc (.cells #[.int .i64 a.1.1, .int .i64 a.1.2, .slice Aa a.2.length ca] 30)) (w.heap.size + 1) (by simp) 30 #[.int .i64 b.1.1, .int .i64 b.1.2, .slice Ab b.2.length cb]
  clear hC hL hCa hCb hOa hOb
  by_cases hbig : n ≤ 20 ∧ a.2.length ≤ 20 ∧ b.2.length ≤ 20
  · obtain ⟨hb1, hb2, hb3⟩ := hbig
    have t1 : decide ((20 : Int) < (n : Int)) = false := decide_eq_false (by omega)
    have t2 : decide ((20 : Int) < (a.2.length : Int)) = false := decide_eq_false (by omega)
    have t3 : decide ((20 : Int) < (b.2.length : Int)) = false := decide_eq_false (by omega)
    have t1' : decide (20 < n) = false := decide_eq_false (by omega)
    have t2' : decide (20 < a.2.length) = false := decide_eq_false (by omega)
    have t3' : decide (20 < b.2.length) = false := decide_eq_false (by omega)
    go_enter Try.func4, Try.ntmps4
    go_wp2_with fail
    clear t1 t2 t3 t1' t2' t3'
    generalize ((w.alloc (.cells #[.int .i64 a.1.1, .int .i64 a.1.2, .slice Aa a.2.length ca] 30)).alloc (.cells #[.int .i64 b.1.1, .int .i64 b.1.2, .slice Ab b.2.length cb] 30)) = wb at hWB hX4 hX5 ⊢
    have HX := Lib.hid (And.intro hX4.lt hX5.lt)
    have HWB := Lib.hid hWB
    have HCa := Lib.hid (Kd.C_below HCa0.out (hWB.below (fun _ _ h => h)))
    have HCb := Lib.hid (Kd.C_below HCb0.out (hWB.below (fun _ _ h => h)))
    have lt_of : ∀ {K : List Cmd} {B : Option Addr} {k : Nat}, cmdK.C wb B k K → 0 < k → ∀ ad, B = some ad → ∀ i, wb.heap.size ≤ i → ad.block = i → False := fun hq hp ad ha i hi he => by
      obtain ⟨b1, o1, ha1, h3, _⟩ := cmds_at hq hp
      rw [ha] at ha1
      cases ha1
      have h4 := World.block_lt_of_cell? wb _ h3
      simp only at h4 he
      omega
    have HNa := Lib.hid (lt_of HCa.out)
    have HNb := Lib.hid (lt_of HCb.out)
    have HCL := Lib.hid hWB
    refine (vault_new wb).mono ?_
    rintro r w1 ⟨g, S, rfl, hV, hS, hF⟩
    have HV := Lib.hid hV
    have HS := Lib.hid hS
    have HF := Lib.hid hF
    have HX4 := Lib.hid hX4
    have HX5 := Lib.hid hX5
    clear hV hS hF hX4 hX5 hWB lt_of
    generalize w.heap.size = x4 at HX4 HX5 HX ⊢
    go_wp2_with fail
    go_loopw [8] (fun i wr => ∃ (k : Nat) (S' : Nat → Prop) (m : Nat), k ≤ n ∧ i = .int .i64 k ∧ m ≤ k ∧ VaultRep wr S' g (runI (L.take k)).1 m ∧ (∀ b, S' b → wb.heap.size ≤ b) ∧ Fr (fun _ => False) wb wr) (fun i _ => n - (intOf i).toNat)
    case atStart => exact ⟨0, S, 0, Nat.zero_le _, rfl, Nat.le_refl _, HV.out, HS.out, HF.out⟩
    case round =>
      clear HV HS HF
      obtain ⟨k, S1, m1, hk, rfl, hm, hV, hS, hG⟩ := hrel
      have HVV_W := Lib.hid hV
      have HS1 := Lib.hid hS
      have HG := Lib.hid hG
      clear hV hS hG
      rcases Nat.lt_or_ge k n with hlt | hge
      · obtain ⟨bx, off, Ax, cx, rfl, hcb, hCw, h0w, h1w, h2w⟩ := items_at HC.out hlt
        have HRS := Lib.hid (runI_succ (L := L) (k := k) (by rw [HLn.out]; exact hlt))
        have HRT := Lib.hid (runI_take HO.out k (by rw [HLn.out]; omega))
        have HGD := Lib.hid (HO.out _ (itx_mem (i := k) (by rw [HLn.out]; exact hlt)))
        have hA0 : 0 < (itx L k).2.length → ∀ ad, Ax = some ad → ¬ S1 ad.block := fun hp ad ha hs => by
          obtain ⟨b1, o1, ha1, h3, _⟩ := cmds_at hCw hp
          rw [ha] at ha1
          cases ha1
          have h4 := World.block_lt_of_cell? w _ h3
          have h5 := HS1.out _ hs
          have h6 := HWB.out.size
          simp only at h4 h5
          omega
        have HA0 := Lib.hid hA0
        have hGw : Fr (fun _ => False) w wr := HWB.out.trans HG.out
        have HCx := Lib.hid (Kd.C_below hCw (hGw.drew.below (fun _ _ h => h)))
        have HVd := Lib.hid (HVV_W.out.fr (Fr.refl (fun _ => False) wr).drew (fun _ _ h => h))
        obtain ⟨St, hSt⟩ : ∃ St : World → Prop, St = Fr S1 wr := ⟨_, rfl⟩
        have HT := Lib.hid (show ∀ w', Fr S1 wr w' → At St w' from fun w' h => by unfold At; rw [hSt]; exact h)
        have hbn : ∀ x, w.cell? ⟨bx, x, none⟩ ≠ none → ¬ S1 bx := fun x hx hs => by
          cases hq : w.cell? ⟨bx, x, none⟩ with
          | none => exact hx hq
          | some v =>
            have h2 := World.block_lt_of_cell? w _ hq
            have h5 := HS1.out _ hs
            have h6 := HWB.out.size
            simp only at h2
            omega
        have lift : ∀ (x : Nat) (u : Value), w.cell? ⟨bx, x, none⟩ = some u → ∀ w', At St w' → w'.cell? ⟨bx, x, none⟩ = some u := fun x u hq w' h => by replace h := h.out; rw [hSt] at h; exact h.cell (hGw.cell hq (fun h => h)) (hbn x (by rw [hq]; simp))
        have l0 := lift _ _ h0w
        have l1 := lift _ _ h1w
        have l2 := lift _ _ h2w
        have hT0 := HT.out wr.drew (Fr.refl _ _).drew
        clear hbn lift hSt h0w h1w h2w hCw hA0 hGw
        go_wp2_with fail
        refine rt_start [] (At St) 12 (by kernel_rfl) rfl ?_
        refine rt_free 0 (v := ?_) rfl (by kernel_rfl) (by kernel_rfl) (by kernel_rfl) (by kernel_rfl) (fun _ _ _ h => h) (by rfl) (fun _ => by first | assumption | exact HS0 _ rfl | exact HT.out _ (by repeat (first | exact Fr.refl _ _ | apply Fr.drew | refine Fr.alloc ?_ _))) ?_ ?_
        rotate_left 1
        · intro w; go_simp <;> with_reducible rfl
        try simp only [Act.put, List.setIfInBounds_toArray, List.set_cons_zero, List.set_cons_succ]
        refine rt_free 1 (v := ?_) rfl (by kernel_rfl) (by kernel_rfl) (by kernel_rfl) (by kernel_rfl) (fun _ _ _ h => h) (by rfl) (fun _ => by first | assumption | exact HS0 _ rfl | exact HT.out _ (by repeat (first | exact Fr.refl _ _ | apply Fr.drew | refine Fr.alloc ?_ _))) ?_ ?_
        rotate_left 1
        · intro w; go_simp <;> with_reducible rfl
        try simp only [Act.put, List.setIfInBounds_toArray, List.set_cons_zero, List.set_cons_succ]
        refine rt_free 2 (v := ?_) rfl (by kernel_rfl) (by kernel_rfl) (by kernel_rfl) (by kernel_rfl) (fun _ _ _ h => h) (by rfl) (fun _ => by first | assumption | exact HS0 _ rfl | exact HT.out _ (by repeat (first | exact Fr.refl _ _ | apply Fr.drew | refine Fr.alloc ?_ _))) ?_ ?_
        rotate_left 1
        · intro w; go_simp <;> with_reducible rfl
        try simp only [Act.put, List.setIfInBounds_toArray, List.set_cons_zero, List.set_cons_succ]
        refine rt_free 3 (v := ?_) rfl (by kernel_rfl) (by kernel_rfl) (by kernel_rfl) (by kernel_rfl) (fun _ _ _ h => h) (by rfl) (fun _ => by first | assumption | exact HS0 _ rfl | exact HT.out _ (by repeat (first | exact Fr.refl _ _ | apply Fr.drew | refine Fr.alloc ?_ _))) ?_ ?_
        rotate_left 1
        · intro w; go_simp <;> with_reducible rfl
        try simp only [Act.put, List.setIfInBounds_toArray, List.set_cons_zero, List.set_cons_succ]
        refine rt_free 4 (v := ?_) rfl (by kernel_rfl) (by kernel_rfl) (by kernel_rfl) (by kernel_rfl) (fun _ _ _ h => h) (by rfl) (fun _ => by first | assumption | exact HS0 _ rfl | exact HT.out _ (by repeat (first | exact Fr.refl _ _ | apply Fr.drew | refine Fr.alloc ?_ _))) ?_ ?_
        rotate_left 1
        · intro w; go_simp <;> with_reducible rfl
        try simp only [Act.put, List.setIfInBounds_toArray, List.set_cons_zero, List.set_cons_succ]
        refine rt_take 5 (v := ?_) rfl (by kernel_rfl) (by kernel_rfl) (by kernel_rfl) (by kernel_rfl) (fun _ _ _ h => h) (by rfl) (by first | assumption | exact HS0 _ rfl | exact HT.out _ (by repeat (first | exact Fr.refl _ _ | apply Fr.drew | refine Fr.alloc ?_ _))) ?_ ?_
        rotate_left 1
        · intro w hSw; go_simp <;> with_reducible rfl
        try simp only [Act.put, List.setIfInBounds_toArray, List.set_cons_zero, List.set_cons_succ]
        refine rt_free 6 (v := ?_) rfl (by kernel_rfl) (by kernel_rfl) (by kernel_rfl) (by kernel_rfl) (fun _ _ _ h => h) (by rfl) (fun _ => by first | assumption | exact HS0 _ rfl | exact HT.out _ (by repeat (first | exact Fr.refl _ _ | apply Fr.drew | refine Fr.alloc ?_ _))) ?_ ?_
        rotate_left 1
        · intro w; go_simp <;> with_reducible rfl
        try simp only [Act.put, List.setIfInBounds_toArray, List.set_cons_zero, List.set_cons_succ]
        refine rt_free 7 (v := ?_) rfl (by kernel_rfl) (by kernel_rfl) (by kernel_rfl) (by kernel_rfl) (fun _ _ _ h => h) (by rfl) (fun _ => by first | assumption | exact HS0 _ rfl | exact HT.out _ (by repeat (first | exact Fr.refl _ _ | apply Fr.drew | refine Fr.alloc ?_ _))) ?_ ?_
        rotate_left 1
        · intro w; go_simp <;> with_reducible rfl
        try simp only [Act.put, List.setIfInBounds_toArray, List.set_cons_zero, List.set_cons_succ]
        refine rt_free 8 (v := ?_) rfl (by kernel_rfl) (by kernel_rfl) (by kernel_rfl) (by kernel_rfl) (fun _ _ _ h => h) (by rfl) (fun _ => by first | assumption | exact HS0 _ rfl | exact HT.out _ (by repeat (first | exact Fr.refl _ _ | apply Fr.drew | refine Fr.alloc ?_ _))) ?_ ?_
        rotate_left 1
        · intro w; go_simp <;> with_reducible rfl
        try simp only [Act.put, List.setIfInBounds_toArray, List.set_cons_zero, List.set_cons_succ]
        refine rt_free 9 (v := ?_) rfl (by kernel_rfl) (by kernel_rfl) (by kernel_rfl) (by kernel_rfl) (fun _ _ _ h => h) (by rfl) (fun _ => by first | assumption | exact HS0 _ rfl | exact HT.out _ (by repeat (first | exact Fr.refl _ _ | apply Fr.drew | refine Fr.alloc ?_ _))) ?_ ?_
        rotate_left 1
        · intro w; go_simp <;> with_reducible rfl
        try simp only [Act.put, List.setIfInBounds_toArray, List.set_cons_zero, List.set_cons_succ]
        refine rt_take 10 (v := ?_) rfl (by kernel_rfl) (by kernel_rfl) (by kernel_rfl) (by kernel_rfl) (fun _ _ _ h => h) (by rfl) (by first | assumption | exact HS0 _ rfl | exact HT.out _ (by repeat (first | exact Fr.refl _ _ | apply Fr.drew | refine Fr.alloc ?_ _))) ?_ ?_
        rotate_left 1
        · intro w hSw; go_simp <;> with_reducible rfl
        try simp only [Act.put, List.setIfInBounds_toArray, List.set_cons_zero, List.set_cons_succ]
        refine rt_one 11 rfl (by kernel_rfl) (fun K hK => ?_)
        go_simp
        refine (vault_apply (itx L k).1 Ax (itx L k).2.length cx (itx L k).2 g m1 S1 (runI (L.take k)).1 _ HVd.out HCx.out HA0.out HGD.out HRT.out.1 (by omega) (by have := HRT.out.2.1; omega)).mono ?_
        rintro r W2 hAp
        obtain ⟨v2, S2, m2, rfl, hV2, hm2, hS2, hF2, hR2⟩ := hAp.both HVd.out
        have hF2' := (Fr.refl S1 wr).drew.trans hF2
        have hT2 := HT.out _ hF2'
        go_wp2_with fail
        refine hK.out (At St) _ _ (fun _ h => h) (fun _ => by (assumption)) ?_
        clear hK K
        try simp only [Act.put, List.setIfInBounds_toArray, List.set_cons_zero, List.set_cons_succ]
        refine rt_done (by kernel_rfl) ?_
        have HV2 := Lib.hid hV2
        have HS2 := Lib.hid (show ∀ b, S2 b → wb.heap.size ≤ b from fun b hb => (hS2 b hb).elim (HS1.out b) (fun h => Nat.le_trans HG.out.size h))
        have HG2 := Lib.hid (HG.out.trans' hF2' (fun i hi h => by have := HS1.out i h; omega))
        clear l0 l1 l2 hT0 hT2 hAp hV2 hS2 hF2 hF2' hR2
        go_wp2_with fail
        go_roundw
        case rel =>
          refine ⟨k + 1, S2, m2, by omega, by go_num, by omega, ?_, HS2.out, HG2.out⟩
          rw [HRS.out, stepI_ap]
          exact HV2.out
        case measure => simp [intOf]; omega
      · obtain rfl : n = k := by omega
        have tnn : decide (n < n) = false := decide_eq_false (by omega)
        have hrt := runI_take HO.out n (by rw [HLn.out]; omega)
        obtain ⟨H0, hH0⟩ : ∃ H0, H0 = (runI (L.take n)).1 := ⟨_, rfl⟩
        rw [← hH0] at HVV_W hrt
        have HG0 := Lib.hid hrt.1
        have HL0 := Lib.hid (show H0.length ≤ 160 from by have := hrt.2.1; omega)
        clear hrt hH0
        go_wp2_with fail
        refine (vault_twin g m1 S1 H0 wr HVV_W.out (by have := HL0.out; omega)).mono ?_
        rintro r W0 ⟨g2, S2, rfl, hT, hS2, hFt⟩
        have HVV_W0 := Lib.hid (HVV_W.out.fr hFt (fun _ _ h => h))
        have HVT_W0 := Lib.hid hT
        have HBV_W0 := HS1
        have HBT_W0 := Lib.hid (show ∀ b, S2 b → wb.heap.size ≤ b from fun b hb => Nat.le_trans HG.out.size (hS2 b hb))
        have HD_W0 := Lib.hid (show ∀ b, S1 b → ¬ S2 b from fun b hb h => by have h1 := HVV_W.out.lt b hb; have h2 := hS2 b h; omega)
        have HF_W0 := Lib.hid (HG.out.trans hFt)
        have HGV_W0 := HG0
        have HGT_W0 := HG0
        have HLV_W0 := HL0
        have HLT_W0 := HL0
        have HX4_W0 := Lib.hid (HX4.out.fr HF_W0.out (fun h => h))
        have HX5_W0 := Lib.hid (HX5.out.fr HF_W0.out (fun h => h))
        obtain ⟨m2, hm2⟩ : ∃ m2, m2 = m1 := ⟨_, rfl⟩
        rw [← hm2] at HVT_W0
        have hmm : m2 ≤ n := by omega
        obtain ⟨ea, hea⟩ : ∃ z, z = errBat a.2 := ⟨_, rfl⟩
        obtain ⟨eb, heb⟩ : ∃ z, z = errBat b.2 := ⟨_, rfl⟩
        have HEa := Lib.hid hea
        have HEb := Lib.hid heb
        clear hT hS2 hFt hea heb hm2 tnn
        have c0 := HX4_W0.out.cell 0
        have c1 := HX4_W0.out.cell 1
        have c2 := HX4_W0.out.cell 2
        simp only [List.getElem?_toArray, List.getElem?_cons_zero, List.getElem?_cons_succ] at c0 c1 c2
        go_wp2_with fail
        refine (vault_apply a.1 Aa a.2.length ca a.2 g m1 S1 (H0) W0 HVV_W0.out (Kd.C_below HCa.out (HF_W0.out.below (fun _ _ h => h))) (fun hp ad ha hs => HNa.out hp ad ha _ (HBV_W0.out _ hs) rfl) HOa.out HGV_W0.out (by omega) (by have := HLV_W0.out; omega)).mono ?_
        rintro r W1 hAp
        obtain ⟨vx, S1_1, m1_1, rfl, hV, hm, hS, hF, hR⟩ := hAp.both HVV_W0.out
        obtain ⟨Ax, cx, rfl⟩ := Kd.R_slice hR
        rw [← HEa.out]
        have HVV_W1 := Lib.hid hV
        have HBV_W1 := Lib.hid (show ∀ b, S1_1 b → wb.heap.size ≤ b from fun b hb => (hS b hb).elim (HBV_W0.out b) (fun h => Nat.le_trans HF_W0.out.size h))
        have HD_W1 := Lib.hid (show ∀ b, S1_1 b → ¬ S2 b from fun b hb h => (hS b hb).elim (fun h1 => HD_W0.out b h1 h) (fun h1 => absurd (HVT_W0.out.lt b h) (by omega)))
        have HVT_W1 := Lib.hid (HVT_W0.out.fr hF (fun b hb h => HD_W0.out b h hb))
        have HBT_W1 := HBT_W0
        have HF_W1 := Lib.hid (HF_W0.out.trans' hF (fun i hi h => by have := HBV_W0.out i h; omega))
        have HGV_W1 := Lib.hid (apH_good a.1 HGV_W0.out HOa.out)
        have HLV_W1 := Lib.hid (show (apH (H0) a.1 a.2).length ≤ _ from Nat.le_trans (apH_len (H0) a.1 a.2) (Nat.add_le_add_right HLV_W0.out 8))
        have HGT_W1 := HGT_W0
        have HLT_W1 := HLT_W0
        have HX4_W1 := Lib.hid (HX4_W0.out.fr hF (fun h => by have h1 := HBV_W0.out _ h; have h2 := HX.out; omega))
        have HX5_W1 := Lib.hid (HX5_W0.out.fr hF (fun h => by have h1 := HBV_W0.out _ h; have h2 := HX.out; omega))
        have HRx_W1 := Lib.hid (Kd.R_mono (Kd.R_bound hR) (ok' := fun b => ¬ S1_1 b ∧ ¬ S2 b) (fun b hb => ⟨hb.1, fun h => absurd (HVT_W0.out.lt b h) (by omega)⟩))
        clear c0 c1 c2 hAp hV hS hF hR
        have c0 := HX5_W1.out.cell 0
        have c1 := HX5_W1.out.cell 1
        have c2 := HX5_W1.out.cell 2
        simp only [List.getElem?_toArray, List.getElem?_cons_zero, List.getElem?_cons_succ] at c0 c1 c2
        go_wp2_with fail
        refine (vault_apply b.1 Ab b.2.length cb b.2 g m1_1 S1_1 (apH (H0) a.1 a.2) W1 HVV_W1.out (Kd.C_below HCb.out (HF_W1.out.below (fun _ _ h => h))) (fun hp ad ha hs => HNb.out hp ad ha _ (HBV_W1.out _ hs) rfl) HOb.out HGV_W1.out (by omega) (by have := HLV_W1.out; omega)).mono ?_
        rintro r W2 hAp
        obtain ⟨vy, S1_1_2, m1_1_2, rfl, hV, hm, hS, hF, hR⟩ := hAp.both HVV_W1.out
        obtain ⟨Ay, cy, rfl⟩ := Kd.R_slice hR
        rw [← HEb.out]
        have HVV_W2 := Lib.hid hV
        have HBV_W2 := Lib.hid (show ∀ b, S1_1_2 b → wb.heap.size ≤ b from fun b hb => (hS b hb).elim (HBV_W1.out b) (fun h => Nat.le_trans HF_W1.out.size h))
        have HD_W2 := Lib.hid (show ∀ b, S1_1_2 b → ¬ S2 b from fun b hb h => (hS b hb).elim (fun h1 => HD_W1.out b h1 h) (fun h1 => absurd (HVT_W1.out.lt b h) (by omega)))
        have HVT_W2 := Lib.hid (HVT_W1.out.fr hF (fun b hb h => HD_W1.out b h hb))
        have HBT_W2 := HBT_W1
        have HF_W2 := Lib.hid (HF_W1.out.trans' hF (fun i hi h => by have := HBV_W1.out i h; omega))
        have HGV_W2 := Lib.hid (apH_good b.1 HGV_W1.out HOb.out)
        have HLV_W2 := Lib.hid (show (apH (apH (H0) a.1 a.2) b.1 b.2).length ≤ _ from Nat.le_trans (apH_len (apH (H0) a.1 a.2) b.1 b.2) (Nat.add_le_add_right HLV_W1.out 8))
        have HGT_W2 := HGT_W1
        have HLT_W2 := HLT_W1
        have HX4_W2 := Lib.hid (HX4_W1.out.fr hF (fun h => by have h1 := HBV_W1.out _ h; have h2 := HX.out; omega))
        have HX5_W2 := Lib.hid (HX5_W1.out.fr hF (fun h => by have h1 := HBV_W1.out _ h; have h2 := HX.out; omega))
        have HRx_W2 := Lib.hid (res_step HRx_W1.out hS hF)
        have HRy_W2 := Lib.hid (Kd.R_mono (Kd.R_bound hR) (ok' := fun b => ¬ S1_1_2 b ∧ ¬ S2 b) (fun b hb => ⟨hb.1, fun h => absurd (HVT_W1.out.lt b h) (by omega)⟩))
        clear c0 c1 c2 hAp hV hS hF hR
        have c0 := HX5_W2.out.cell 0
        have c1 := HX5_W2.out.cell 1
        have c2 := HX5_W2.out.cell 2
        simp only [List.getElem?_toArray, List.getElem?_cons_zero, List.getElem?_cons_succ] at c0 c1 c2
        go_wp2_with fail
        refine (vault_apply b.1 Ab b.2.length cb b.2 g2 m2 S2 (H0) W2 HVT_W2.out (Kd.C_below HCb.out (HF_W2.out.below (fun _ _ h => h))) (fun hp ad ha hs => HNb.out hp ad ha _ (HBT_W2.out _ hs) rfl) HOb.out HGT_W2.out (by omega) (by have := HLT_W2.out; omega)).mono ?_
        rintro r W3 hAp
        obtain ⟨vp, S2_3, m2_3, rfl, hV, hm, hS, hF, hR⟩ := hAp.both HVT_W2.out
        obtain ⟨Ap, cp, rfl⟩ := Kd.R_slice hR
        rw [← HEb.out]
        have HVT_W3 := Lib.hid hV
        have HBT_W3 := Lib.hid (show ∀ b, S2_3 b → wb.heap.size ≤ b from fun b hb => (hS b hb).elim (HBT_W2.out b) (fun h => Nat.le_trans HF_W2.out.size h))
        have HD_W3 := Lib.hid (show ∀ b, S1_1_2 b → ¬ S2_3 b from fun b hb h => (hS b h).elim (fun h1 => HD_W2.out b hb h1) (fun h1 => absurd (HVV_W2.out.lt b hb) (by omega)))
        have HVV_W3 := Lib.hid (HVV_W2.out.fr hF (fun b hb h => HD_W2.out b hb h))
        have HBV_W3 := HBV_W2
        have HF_W3 := Lib.hid (HF_W2.out.trans' hF (fun i hi h => by have := HBT_W2.out i h; omega))
        have HGT_W3 := Lib.hid (apH_good b.1 HGT_W2.out HOb.out)
        have HLT_W3 := Lib.hid (show (apH (H0) b.1 b.2).length ≤ _ from Nat.le_trans (apH_len (H0) b.1 b.2) (Nat.add_le_add_right HLT_W2.out 8))
        have HGV_W3 := HGV_W2
        have HLV_W3 := HLV_W2
        have HX4_W3 := Lib.hid (HX4_W2.out.fr hF (fun h => by have h1 := HBT_W2.out _ h; have h2 := HX.out; omega))
        have HX5_W3 := Lib.hid (HX5_W2.out.fr hF (fun h => by have h1 := HBT_W2.out _ h; have h2 := HX.out; omega))
        have HRx_W3 := Lib.hid (res_step' HRx_W2.out hS hF)
        have HRy_W3 := Lib.hid (res_step' HRy_W2.out hS hF)
        have HRp_W3 := Lib.hid (Kd.R_mono (Kd.R_bound hR) (ok' := fun b => ¬ S1_1_2 b ∧ ¬ S2_3 b) (fun b hb => ⟨fun h => absurd (HVV_W2.out.lt b h) (by omega), hb.1⟩))
        clear c0 c1 c2 hAp hV hS hF hR
        have c0 := HX4_W3.out.cell 0
        have c1 := HX4_W3.out.cell 1
        have c2 := HX4_W3.out.cell 2
        simp only [List.getElem?_toArray, List.getElem?_cons_zero, List.getElem?_cons_succ] at c0 c1 c2
        go_wp2_with fail
        refine (vault_apply a.1 Aa a.2.length ca a.2 g2 m2_3 S2_3 (apH (H0) b.1 b.2) W3 HVT_W3.out (Kd.C_below HCa.out (HF_W3.out.below (fun _ _ h => h))) (fun hp ad ha hs => HNa.out hp ad ha _ (HBT_W3.out _ hs) rfl) HOa.out HGT_W3.out (by omega) (by have := HLT_W3.out; omega)).mono ?_
        rintro r W4 hAp
        obtain ⟨vq, S2_3_4, m2_3_4, rfl, hV, hm, hS, hF, hR⟩ := hAp.both HVT_W3.out
        obtain ⟨Aq, cq, rfl⟩ := Kd.R_slice hR
        rw [← HEa.out]
        have HVT_W4 := Lib.hid hV
        have HBT_W4 := Lib.hid (show ∀ b, S2_3_4 b → wb.heap.size ≤ b from fun b hb => (hS b hb).elim (HBT_W3.out b) (fun h => Nat.le_trans HF_W3.out.size h))
        have HD_W4 := Lib.hid (show ∀ b, S1_1_2 b → ¬ S2_3_4 b from fun b hb h => (hS b h).elim (fun h1 => HD_W3.out b hb h1) (fun h1 => absurd (HVV_W3.out.lt b hb) (by omega)))
        have HVV_W4 := Lib.hid (HVV_W3.out.fr hF (fun b hb h => HD_W3.out b hb h))
        have HBV_W4 := HBV_W3
        have HF_W4 := Lib.hid (HF_W3.out.trans' hF (fun i hi h => by have := HBT_W3.out i h; omega))
        have HGT_W4 := Lib.hid (apH_good a.1 HGT_W3.out HOa.out)
        have HLT_W4 := Lib.hid (show (apH (apH (H0) b.1 b.2) a.1 a.2).length ≤ _ from Nat.le_trans (apH_len (apH (H0) b.1 b.2) a.1 a.2) (Nat.add_le_add_right HLT_W3.out 8))
        have HGV_W4 := HGV_W3
        have HLV_W4 := HLV_W3
        have HX4_W4 := Lib.hid (HX4_W3.out.fr hF (fun h => by have h1 := HBT_W3.out _ h; have h2 := HX.out; omega))
        have HX5_W4 := Lib.hid (HX5_W3.out.fr hF (fun h => by have h1 := HBT_W3.out _ h; have h2 := HX.out; omega))
        have HRx_W4 := Lib.hid (res_step' HRx_W3.out hS hF)
        have HRy_W4 := Lib.hid (res_step' HRy_W3.out hS hF)
        have HRp_W4 := Lib.hid (res_step' HRp_W3.out hS hF)
        have HRq_W4 := Lib.hid (Kd.R_mono (Kd.R_bound hR) (ok' := fun b => ¬ S1_1_2 b ∧ ¬ S2_3_4 b) (fun b hb => ⟨fun h => absurd (HVV_W3.out.lt b h) (by omega), hb.1⟩))
        clear c0 c1 c2 hAp hV hS hF hR
        have tea : (ea != ea) = false := by simp
        have teb : (eb != eb) = false := by simp
        have c4 := HX4_W4.out.cell 2
        have c5 := HX5_W4.out.cell 2
        simp only [List.getElem?_toArray, List.getElem?_cons_zero, List.getElem?_cons_succ] at c4 c5
        go_wp2_with fail
        clear tea teb
        refine (ref_conf7 Aa Ab a.2.length ca b.2.length cb a.2 b.2 W4 (Kd.C_below HCa.out (HF_W4.out.below (fun _ _ h => h))) (Kd.C_below HCb.out (HF_W4.out.below (fun _ _ h => h))) HOa.out HOb.out (by omega) (by omega)).mono ?_
        rintro r W5 ⟨rfl, hF5⟩
        have F5 := Lib.hid hF5
        clear hF5 c4 c5
        by_cases hcf : ∃ x ∈ a.2, ∃ y ∈ b.2, confP x y
        · rw [cdec_true hcf]
          clear hcf
          go_wp2_with fail
          refine (works13 _).mono ?_
          rintro e w9 ⟨rfl, hF9⟩
          go_wp2_with fail
          go_ret
          exact ⟨rfl, HWB.out.trans ((HF_W4.out.trans F5.out).trans hF9)⟩
        · rw [cdec_false hcf]
          obtain ⟨hsame, hxq, hyp⟩ := swap_same (H0) a.1 b.1 a.2 b.2 hcf
          have HSAME := Lib.hid hsame
          have HXQ := Lib.hid hxq
          have HYP := Lib.hid hyp
          clear hcf hsame hxq hyp
          have HCx := Lib.hid (Kd.C_below (Kd.R_reads' HRx_W4.out).2.2 (F5.out.below (fun _ _ h => h)))
          have HCq := Lib.hid (Kd.C_below (Kd.R_reads' HRq_W4.out).2.2 (F5.out.below (fun _ _ h => h)))
          have HCy := Lib.hid (Kd.C_below (Kd.R_reads' HRy_W4.out).2.2 (F5.out.below (fun _ _ h => h)))
          have HCp := Lib.hid (Kd.C_below (Kd.R_reads' HRp_W4.out).2.2 (F5.out.below (fun _ _ h => h)))
          have HVV5 := Lib.hid (HVV_W4.out.fr F5.out (fun _ _ h => h))
          have HVT5 := Lib.hid (HVT_W4.out.fr F5.out (fun _ _ h => h))
          go_wp2_with fail
          refine (same_results Ax Aq _ cx _ cq _ _ W5 HCx.out HCq.out (by rw [HXQ.out]) (apT_ok HG0.out HOa.out) (apT_ok (apH_good b.1 HG0.out HOb.out) HOa.out)).mono ?_
          rintro r W6 ⟨rfl, hF6⟩
          have F6 := Lib.hid hF6
          clear hF6
          go_wp2_with fail
          refine (same_results Ay Ap _ cy _ cp _ _ W6 (Kd.C_below HCy.out (F6.out.below (fun _ _ h => h))) (Kd.C_below HCp.out (F6.out.below (fun _ _ h => h))) (by rw [HYP.out]) (apT_ok (apH_good a.1 HG0.out HOa.out) HOb.out) (apT_ok HG0.out HOb.out)).mono ?_
          rintro r W7 ⟨rfl, hF7⟩
          have F7 := Lib.hid (F6.out.trans hF7)
          clear hF7
          go_wp2_with fail
          refine (vault_same g g2 _ _ _ _ (apH (apH (H0) a.1 a.2) b.1 b.2) (apH (apH (H0) b.1 b.2) a.1 a.2) W7 (HVV5.out.fr F7.out (fun _ _ h => h)) (HVT5.out.fr F7.out (fun _ _ h => h)) HGV_W4.out HGT_W4.out).mono ?_
          rintro r W8 ⟨rfl, hF8⟩
          rw [cdec_true HSAME.out]
          have F8 := Lib.hid (F7.out.trans hF8)
          clear hF8
          go_wp2_with fail
          refine (vault_same g2 g _ _ _ _ (apH (apH (H0) b.1 b.2) a.1 a.2) (apH (apH (H0) a.1 a.2) b.1 b.2) W8 (HVT5.out.fr F8.out (fun _ _ h => h)) (HVV5.out.fr F8.out (fun _ _ h => h)) HGT_W4.out HGV_W4.out).mono ?_
          rintro r W9 ⟨rfl, hF9⟩
          rw [cdec_true (SameH.symm HSAME.out)]
          have F9 := Lib.hid (F8.out.trans hF9)
          clear hF9
          go_wp2_with fail
          refine (vault_digest g _ _ (apH (apH (H0) a.1 a.2) b.1 b.2) W9 (HVV5.out.fr F9.out (fun _ _ h => h)) HGV_W4.out (by have := HLV_W4.out; omega)).mono ?_
          rintro r W10 ⟨ks1, hk1, rfl, hF10⟩
          have F10 := Lib.hid (F9.out.trans hF10)
          have HK1 := Lib.hid hk1
          clear hF10 hk1
          go_wp2_with fail
          refine (vault_digest g2 _ _ (apH (apH (H0) b.1 b.2) a.1 a.2) W10 (HVT5.out.fr F10.out (fun _ _ h => h)) HGT_W4.out (by have := HLT_W4.out; omega)).mono ?_
          rintro r W11 ⟨ks2, hk2, rfl, hF11⟩
          have F11 := Lib.hid (F10.out.trans hF11)
          have hdg : digV (apH (apH (H0) a.1 a.2) b.1 b.2) ks1 = digV (apH (apH (H0) b.1 b.2) a.1 a.2) ks2 := by rw [KeysV.one HK1.out hk2 (fun k => (HSAME.out k).1), digV_same (fun k => (HSAME.out k).1)]
          rw [hdg]
          clear hF11 hk2 hdg
          obtain ⟨z, hz⟩ : ∃ z : Nat, z = digV (apH (apH (H0) b.1 b.2) a.1 a.2) ks2 := ⟨_, rfl⟩
          rw [← hz]
          have hzz : ((z : Int) == (z : Int)) = true := by simp
          clear hz
          go_wp2_with fail
          refine (works13 _).mono ?_
          rintro e W12 ⟨rfl, hF12⟩
          have F12 := Lib.hid (F11.out.trans hF12)
          clear hF12
          go_wp2_with fail
          go_ret
          exact ⟨rfl, HWB.out.trans ((HF_W4.out.trans F5.out).trans F12.out)⟩
  · have hw : ∀ W : World, Calls Try.prog 5 #[] W fun r w' => r = .returned (.bool true) ∧ Fr (fun _ => False) W w' := works13
    have HWB := Lib.hid hWB
    have HWK := Lib.hid hw
    clear hX4 hX5 hWB hw
    rcases Nat.lt_or_ge 20 n with h1 | h1
    · have t1 : decide ((20 : Int) < (n : Int)) = true := decide_eq_true (by omega)
      have t1' : decide (20 < n) = true := decide_eq_true (by omega)
      go_enter Try.func4, Try.ntmps4
      go_wp2_with fail
      refine (HWK.out _).mono ?_
      rintro e w9 ⟨rfl, hF9⟩
      go_wp2_with fail
      go_ret
      exact ⟨rfl, HWB.out.trans hF9⟩
    have t1 : decide ((20 : Int) < (n : Int)) = false := decide_eq_false (by omega)
    have t1' : decide (20 < n) = false := decide_eq_false (by omega)
    rcases Nat.lt_or_ge 20 a.2.length with h2 | h2
    · have t2 : decide ((20 : Int) < (a.2.length : Int)) = true := decide_eq_true (by omega)
      have t2' : decide (20 < a.2.length) = true := decide_eq_true (by omega)
      go_enter Try.func4, Try.ntmps4
      go_wp2_with fail
      refine (HWK.out _).mono ?_
      rintro e w9 ⟨rfl, hF9⟩
      go_wp2_with fail
      go_ret
      exact ⟨rfl, HWB.out.trans hF9⟩
    have t2 : decide ((20 : Int) < (a.2.length : Int)) = false := decide_eq_false (by omega)
    have t2' : decide (20 < a.2.length) = false := decide_eq_false (by omega)
    have h3 : 20 < b.2.length := by omega
    have t3 : decide ((20 : Int) < (b.2.length : Int)) = true := decide_eq_true (by omega)
    have t3' : decide (20 < b.2.length) = true := decide_eq_true (by omega)
    go_enter Try.func4, Try.ntmps4
    go_wp2_with fail
    refine (HWK.out _).mono ?_
    rintro e w9 ⟨rfl, hF9⟩
    go_wp2_with fail
    go_ret
    exact ⟨rfl, HWB.out.trans hF9⟩
end Go.Proofs.Ytepfhcimmbkilaa
/- Structs of three and four fields, read as pairs of pairs. -/
namespace Go.Proofs.Ytepfhcimmbkilaa
open Go.ChangeShapes Go.WideShapes Go.ChangeAt Go.RowKit
open Go.Proofs.YtepfhcimmbkilaaW.PrintWords

theorem opens_struct3 {P : Program} {t : TypeId} {f0 f1 f2 : Field} {α β γ : Type} {a : Kd α} {b : Kd β} {c : Kd γ} {Wa : α → Prop} {Wb : β → Prop} {Wc : γ → Prop} (ht : P.underlying t = some (.struct #[f0, f1, f2]))
    (h0 : Opens P f0.type a Wa) (h1 : Opens P f1.type b Wb) (h2 : Opens P f2.type c Wc) (c0 : P.cellsOf f0.type = a.sz) (c1 : P.cellsOf f1.type = b.sz) (c2 : P.cellsOf f2.type = c.sz)
    (o0 : f0.offset = 0) (o1 : f1.offset = a.sz) (o2 : f2.offset = a.sz + b.sz) (ct : P.cellsOf t = a.sz + b.sz + c.sz) :
    Opens P t (Kd.pair a (Kd.pair b c)) (fun x => Wa x.1 ∧ Wb x.2.1 ∧ Wc x.2.2) := by
  intro H enc w fuel cs x hx
  obtain ⟨xs, n, _, _, hl, hlen, hf⟩ := DataW.trod_struct ht hx
  have g0 := hf 0 f0 rfl
  have g1 := hf 1 f1 rfl
  have g2 := hf 2 f2 rfl
  have hlen' : xs.length = 3 := hlen
  rw [List.getElem?_eq_getElem (by omega)] at g0 g1 g2
  obtain ⟨y0, k0, w0⟩ := h0 g0
  obtain ⟨y1, k1, w1⟩ := h1 g1
  obtain ⟨y2, k2, w2⟩ := h2 g2
  rw [o0, c0, List.drop_zero] at k0
  rw [o1, c1] at k1
  rw [o2, c2, ← List.drop_drop] at k2
  refine ⟨(y0, y1, y2), ⟨_, _, ?_, k0, _, _, rfl, k1, k2⟩, w0, w1, w2⟩
  rw [List.take_of_length_le (l := (cs.drop a.sz).drop b.sz) (by rw [List.length_drop, List.length_drop]; omega), List.take_append_drop, List.take_append_drop]
theorem opens_struct4 {P : Program} {t : TypeId} {f0 f1 f2 f3 : Field} {α β γ δ : Type} {a : Kd α} {b : Kd β} {c : Kd γ} {d : Kd δ} {Wa : α → Prop} {Wb : β → Prop} {Wc : γ → Prop} {Wd : δ → Prop} (ht : P.underlying t = some (.struct #[f0, f1, f2, f3]))
    (h0 : Opens P f0.type a Wa) (h1 : Opens P f1.type b Wb) (h2 : Opens P f2.type c Wc) (h3 : Opens P f3.type d Wd) (c0 : P.cellsOf f0.type = a.sz) (c1 : P.cellsOf f1.type = b.sz) (c2 : P.cellsOf f2.type = c.sz) (c3 : P.cellsOf f3.type = d.sz)
    (o0 : f0.offset = 0) (o1 : f1.offset = a.sz) (o2 : f2.offset = a.sz + b.sz) (o3 : f3.offset = a.sz + b.sz + c.sz) (ct : P.cellsOf t = a.sz + b.sz + c.sz + d.sz) :
    Opens P t (Kd.pair a (Kd.pair b (Kd.pair c d))) (fun x => Wa x.1 ∧ Wb x.2.1 ∧ Wc x.2.2.1 ∧ Wd x.2.2.2) := by
  intro H enc w fuel cs x hx
  obtain ⟨xs, n, _, _, hl, hlen, hf⟩ := DataW.trod_struct ht hx
  have g0 := hf 0 f0 rfl
  have g1 := hf 1 f1 rfl
  have g2 := hf 2 f2 rfl
  have g3 := hf 3 f3 rfl
  have hlen' : xs.length = 4 := hlen
  rw [List.getElem?_eq_getElem (by omega)] at g0 g1 g2 g3
  obtain ⟨y0, k0, w0⟩ := h0 g0
  obtain ⟨y1, k1, w1⟩ := h1 g1
  obtain ⟨y2, k2, w2⟩ := h2 g2
  obtain ⟨y3, k3, w3⟩ := h3 g3
  rw [o0, c0, List.drop_zero] at k0
  rw [o1, c1] at k1
  rw [o2, c2, ← List.drop_drop] at k2
  rw [o3, c3, ← List.drop_drop, ← List.drop_drop] at k3
  refine ⟨(y0, y1, y2, y3), ⟨_, _, ?_, k0, _, _, rfl, k1, _, _, rfl, k2, k3⟩, w0, w1, w2, w3⟩
  rw [List.take_of_length_le (l := ((cs.drop a.sz).drop b.sz).drop c.sz) (by rw [List.length_drop, List.length_drop, List.length_drop]; omega), List.take_append_drop, List.take_append_drop, List.take_append_drop]
end Go.Proofs.Ytepfhcimmbkilaa
/- Arguments that are strings, floats; bounds of numbers. -/
namespace Go.Proofs.Ytepfhcimmbkilaa
open Go.ChangeShapes Go.WideShapes Go.ChangeAt Go.RowKit
open Go.Proofs.YtepfhcimmbkilaaW.PrintWords

/-- An argument of one cell. -/
theorem open_arg_string {P : Program} {t : TypeId} (ht : P.underlying t = some .string)
    {H : Type} {enc : TypeId × Value → H} {w : World} {r : Reach} {b0 : Nat} {v : Value} {x : DataW H} {ps : List MemPlace}
    (hv : Value.okWide P w r b0 t v) (hx : DataW.Trod enc P w 0 (fun _ => true) true t v x ps) :
    ∃ s, v = .string s ∧ s.size ≤ maxLen := by
  obtain ⟨s, rfl⟩ := okWide_string ht hv
  obtain ⟨fuel, hf⟩ := hx
  obtain ⟨s', h, hW⟩ := opens_string ht hf
  have h' : [Value.string s] = [.string s'] := h
  injection h' with h1 _
  injection h1 with h2
  subst h2
  exact ⟨s, rfl, hW⟩
theorem okWide_float {P : Program} {w : World} {r : Reach} {base : Nat} {t : TypeId} {v : Value} (ht : P.underlying t = some (.float .f64)) (h : Value.okWide P w r base t v) : ∃ b, v = .float .f64 b := by
  cases v <;> simp_all [Value.okWide, Cell.okWide, Cell.ok]
  all_goals (try (rename_i k b; cases k <;> simp_all))
theorem open_arg_float {P : Program} {t : TypeId} (ht : P.underlying t = some (.float .f64))
    {H : Type} {enc : TypeId × Value → H} {w : World} {r : Reach} {b0 : Nat} {v : Value} {x : DataW H} {ps : List MemPlace}
    (hv : Value.okWide P w r b0 t v) (hx : DataW.Trod enc P w 0 (fun _ => true) true t v x ps) :
    ∃ b, v = .float .f64 b ∧ b < 2 ^ 64 := by
  obtain ⟨s, rfl⟩ := okWide_float ht hv
  obtain ⟨fuel, hf⟩ := hx
  obtain ⟨s', h, hW⟩ := opens_float ht hf
  have h' : [Value.float .f64 s] = [.float .f64 s'] := h
  injection h' with h1 _
  injection h1 with _ h2
  subst h2
  exact ⟨s, rfl, hW⟩
theorem bnd_u8 {n : Int} (h : (Lit.int .u8 n).wf = true) : 0 ≤ n ∧ n ≤ 255 := by
  simpa [Lit.wf, IntKind.min, IntKind.max, IntKind.signed, IntKind.bits] using h
theorem bnd_i64 {n : Int} (h : (Lit.int .i64 n).wf = true) : -9223372036854775808 ≤ n ∧ n ≤ 9223372036854775807 := by
  simpa [Lit.wf, IntKind.min, IntKind.max, IntKind.signed, IntKind.bits] using h
theorem bnd_u64 {n : Int} (h : (Lit.int .u64 n).wf = true) : ∃ m : Nat, n = m ∧ m < 18446744073709551616 := by
  have h1 : 0 ≤ n ∧ n ≤ 18446744073709551615 := by simpa [Lit.wf, IntKind.min, IntKind.max, IntKind.signed, IntKind.bits] using h
  exact ⟨n.toNat, by omega, by omega⟩
theorem maxLen_le {n : Nat} (h : n ≤ maxLen) : n ≤ 9223372036854775807 := by simp only [maxLen] at h; omega
end Go.Proofs.Ytepfhcimmbkilaa
/- Ids and commands as arguments. -/
namespace Go.Proofs.Ytepfhcimmbkilaa
open Go.ChangeShapes Go.WideShapes Go.ChangeAt Go.RowKit
open Go.Proofs.YtepfhcimmbkilaaW.PrintWords

theorem opens_id : Opens Try.prog 27 idK IdOk :=
  opens_struct2 Try.underlying27 (opens_int Try.underlying3) (opens_int Try.underlying3) (by kernel_rfl) (by kernel_rfl) rfl rfl (by kernel_rfl)
theorem Opens.imp {P : Program} {t : TypeId} {α : Type} {d : Kd α} {W W' : α → Prop} (h : Opens P t d W) (hw : ∀ x, W x → W' x) : Opens P t d W' := fun hx => by
  obtain ⟨y, hk, h1⟩ := h hx
  exact ⟨y, hk, hw y h1⟩
theorem opens_cmd : Opens Try.prog 37 cmdK (fun x => (Lit.int .i64 x.1).wf = true ∧ x.2.1.size ≤ maxLen ∧ x.2.2 < 2 ^ 64) :=
  opens_struct3 Try.underlying37 (opens_int Try.underlying3) (opens_string Try.underlying9) (opens_float Try.underlying35) (by kernel_rfl) (by kernel_rfl) (by kernel_rfl) rfl rfl rfl (by kernel_rfl)
end Go.Proofs.Ytepfhcimmbkilaa
/- Writers and items as arguments. -/
namespace Go.Proofs.Ytepfhcimmbkilaa
open Go.ChangeShapes Go.WideShapes Go.ChangeAt Go.RowKit
open Go.Proofs.YtepfhcimmbkilaaW.PrintWords

theorem opens_wr : Opens Try.prog 67 wrK (fun x => IdOk x.1 ∧ (Lit.int .i64 x.2).wf = true) :=
  opens_struct2 Try.underlying67 opens_id (opens_int Try.underlying3) (by kernel_rfl) (by kernel_rfl) rfl rfl (by kernel_rfl)
theorem opens_item : Opens Try.prog 30 itemK (fun x => IdOk x.1 ∧ ∀ y ∈ x.2, (Lit.int .i64 y.1).wf = true ∧ y.2.1.size ≤ maxLen ∧ y.2.2 < 2 ^ 64) :=
  opens_struct2 Try.underlying30 opens_id (opens_slice Try.underlying28 opens_cmd (by kernel_rfl)) (by kernel_rfl) (by kernel_rfl) rfl rfl (by kernel_rfl)
end Go.Proofs.Ytepfhcimmbkilaa
/- Arguments that are structs. -/
namespace Go.Proofs.Ytepfhcimmbkilaa
open Go.ChangeShapes Go.WideShapes Go.ChangeAt Go.RowKit
open Go.Proofs.YtepfhcimmbkilaaW.PrintWords

theorem open_arg_struct {P : Program} {t : TypeId} {fs : Array Field} {α : Type} {d : Kd α} {W : α → Prop} (ht : P.underlying t = some (.struct fs)) (h : Opens P t d W)
    {H : Type} {enc : TypeId × Value → H} {w : World} {r : Reach} {b0 : Nat} {v : Value} {x : DataW H} {ps : List MemPlace}
    (hv : Value.okWide P w r b0 t v) (hx : DataW.Trod enc P w 0 (fun _ => true) true t v x ps) :
    ∃ cs y, v = .agg cs ∧ d.K w y cs.toList ∧ W y := by
  obtain ⟨fuel, hf⟩ := hx
  obtain ⟨y, hk, hw⟩ := h hf
  have hag : ∃ cs, v = .agg cs := by
    simp only [Value.okWide, ht] at hv
    obtain ⟨cs, rfl, _⟩ := hv
    exact ⟨cs, rfl⟩
  obtain ⟨cs, rfl⟩ := hag
  exact ⟨cs, y, rfl, hk, hw⟩
end Go.Proofs.Ytepfhcimmbkilaa
/- What every law's row asks: a call that returns true and changes no block that was there meets the row. -/
namespace Go.Proofs.Ytepfhcimmbkilaa
open Go.ChangeShapes Go.WideShapes Go.ChangeAt Go.RowKit

theorem own : ownKnob Try.prog.godebug = none := by kernel_rfl
theorem laidOut : laidOutB Try.prog = true := by kernel_rfl

theorem trodAll_below {H : Type} {enc : TypeId × Value → H} {P : Program} (hl : laidOutB P = true) {W W' : World} (hb : Below W.heap.size W W') :
    ∀ (ts : List TypeId) (vs : List Value) (ds : List (DataW H)) (ps : List MemPlace), (ts.all fun t => P.readableRec t && decide (t < P.types.size)) = true →
      DataW.TrodAll enc P W 0 (fun _ => true) true ts vs ds ps → (∀ x ∈ ps, x.block < W.heap.size) → DataW.TrodAll enc P W' 0 (fun b => decide (b < W.heap.size)) true ts vs ds ps
  | [], [], [], ps, _, h, _ => h
  | t :: ts, v :: vs, d :: ds, ps, hr, h, hlt => by
    obtain ⟨p, q, h1, h2, rfl⟩ := h
    simp only [List.all_cons, Bool.and_eq_true, decide_eq_true_eq] at hr
    exact ⟨p, q, Below.trod hl hr.1.1 hr.1.2 h1 hb (fun x hx => hlt x (List.mem_append_left _ hx)),
      trodAll_below hl hb ts vs ds q (by simpa using hr.2) h2 (fun x hx => hlt x (List.mem_append_right _ hx)), rfl⟩

theorem law_post {H : Type} {enc : TypeId × Value → H} {P : Program} {f : Func} {s : ChangeSpec} {W W' : World} {args : Array Value} {ds gs : List (DataW H)} {before : List MemPlace} {T : TypeId}
    (hl : laidOutB P = true) (hr : (f.params.toList.all fun t => P.readableRec t && decide (t < P.types.size)) = true) (hres : f.resultTypes.toList = [T]) (hT : P.underlying T = some .bool)
    (hn : f.resultTypes.size = 1) (hvars : s.vars = []) (hfn : ∀ x : List (DataW H), x = ds → s.fn H (x ++ []) = { results := [.lit (.bool true)], args := ds })
    (hW : DataW.Whole enc P f.params.toList s.vars false W args.toList ds gs before) (hb : Below W.heap.size W W') :
    s.post enc P f false true false false W args (.bool true) W' := by
  have hW' := hW
  obtain ⟨p, q, hA, hV, rfl, hfz, hnd⟩ := hW
  have hlt := hW'.lt
  rw [hvars] at hV
  obtain ⟨rfl, rfl⟩ := trodVars_none hV
  have e : s.fn H (ds ++ []) = { results := [.lit (.bool true)], args := ds } := hfn ds rfl
  refine ⟨ds, [], p ++ [], [], p, [], hW', ?_, ?_, ?_, hb.frame _, fun h => by cases h⟩
  · rw [e, hres, hn]
    exact trodAll_mk1 (shut_bool hT true)
  · rw [e]
    exact trodAll_below hl hb _ _ _ _ hr hA (fun x hx => hlt x (List.mem_append_left _ hx))
  · rw [e, hvars]
    rfl
end Go.Proofs.Ytepfhcimmbkilaa
