/- Texts of VaultApplies, merged (29 of 33): Swaps13. -/
import Derived.Test.YtepfhcimmbkilaaGVaultApplies14
import Derived.Test.YtepfhcimmbkilaaGVaultApplies22
import Derived.Test.YtepfhcimmbkilaaGVaultApplies25
import Derived.Test.YtepfhcimmbkilaaGVaultApplies19
import Derived.Test.YtepfhcimmbkilaaGVaultApplies28
set_option linter.unusedVariables false
set_option linter.unusedSimpArgs false
/- VaultSwaps' walk. -/
namespace Go.Proofs.Ytepfhcimmbkilaa
open Go.RowKit
open Go.Proofs.YtepfhcimmbkilaaW.PrintWords

theorem Applied.both {w w' : World} {S : Nat → Prop} {g m : Nat} {H : List HE} {id : Int × Int} {L : List Cmd} {r : Ending} (h : Applied w S g H m id L r w') (hV : VaultRep w S g H m) :
    ∃ v S' m', r = .returned (.tuple #[v, .int .i64 (errBat L)]) ∧ VaultRep w' S' g (apH H id L) m' ∧ m' ≤ m + 1 ∧ (∀ b, S' b → S b ∨ w.heap.size ≤ b) ∧ Fr S w w' ∧ resK.R 55 w' w.heap.size (fun b => ¬ S' b) v (apT H id L) := by
  unfold apH apT
  rcases h with ⟨he, v, S', h1, h2, h3, h4, h5⟩ | ⟨he, h1, h2⟩
  · rw [if_pos he, if_pos he, he]
    exact ⟨v, S', m + 1, h1, h2, Nat.le_refl _, h3, h4, h5⟩
  · rw [if_neg he, if_neg he]
    exact ⟨_, S, m, h1, hV.fr h2 (fun _ _ h => h), Nat.le_succ _, fun b hb => .inl hb, h2.mono (fun _ _ h => h.elim), Kd.R_nil _ _ _ _ _⟩
theorem apH_good {H : List HE} {L : List Cmd} (id : Int × Int) (h : HGood H) (hL : ∀ x ∈ L, CmdGood x) : HGood (apH H id L) := by
  unfold apH
  split
  · exact h.append (tagN_good (Nat.le_refl _) hL)
  · exact h
theorem apH_len (H : List HE) (id : Int × Int) (L : List Cmd) : (apH H id L).length ≤ H.length + 8 := by
  unfold apH
  split
  · rename_i he
    rw [List.length_append, tagN_len]
    have := errBat_len he
    omega
  · omega
theorem apT_ok {H : List HE} {L : List Cmd} {id : Int × Int} (h : HGood H) (hL : ∀ x ∈ L, CmdGood x) : ∀ x ∈ apT H id L, CellOk x.2.2 := by
  unfold apT
  split
  · intro x hx
    unfold toldN at hx
    obtain ⟨i, hi, rfl⟩ := List.mem_map.1 hx
    have hl := List.mem_range.1 hi
    exact (doC_canon (cellOf_canon (h.append (tagN_good (k := i) (by omega) hL)) _) (hL _ (cmx_mem hl))).2.1
  · intro x hx; cases hx
theorem stepI_ap (s : List HE × List Rs) (it : Item) : (stepI s it).1 = apH s.1 it.1 it.2 := by
  unfold stepI apH
  split <;> rfl
theorem res_step {S1 S2 Q : Nat → Prop} {wr W2 : World} {e : TypeId} {base : Nat} {u : Value} {xs : List Rs} (hR : resK.R e wr base (fun b => ¬ S1 b ∧ Q b) u xs) (hS2 : ∀ b, S2 b → S1 b ∨ wr.heap.size ≤ b) (hF : Fr S1 wr W2) : resK.R e W2 base (fun b => ¬ S2 b ∧ Q b) u xs :=
  Kd.R_mono (Kd.R_step (Kd.R_mono (Kd.R_bound hR) (ok' := fun b => (¬ S2 b ∧ Q b) ∧ ¬ S1 b) (fun b hb => ⟨⟨fun h => (hS2 b h).elim hb.1.1 (fun h => absurd hb.2.2.1 (by omega)), hb.1.2⟩, hb.1.1⟩)) (fun b hb hl => hF.block b hl hb.2)) (fun b hb => hb.1)
theorem res_step' {S1 S2 Q : Nat → Prop} {wr W2 : World} {e : TypeId} {base : Nat} {u : Value} {xs : List Rs} (hR : resK.R e wr base (fun b => Q b ∧ ¬ S1 b) u xs) (hS2 : ∀ b, S2 b → S1 b ∨ wr.heap.size ≤ b) (hF : Fr S1 wr W2) : resK.R e W2 base (fun b => Q b ∧ ¬ S2 b) u xs :=
  Kd.R_mono (res_step (Kd.R_mono hR (fun b hb => ⟨hb.2, hb.1⟩)) hS2 hF) (fun b hb => ⟨hb.2, hb.1⟩)
theorem Blk.newAt' (w : World) (n : Nat) (h : w.heap.size = n) (t : TypeId) (cs : Array Value) : Blk (w.alloc (.cells cs t)) n t cs := by subst h; exact Blk.new w t cs
set_option maxRecDepth 100000 in
set_option maxHeartbeats 8000000 in
theorem lawSwaps13 (A : Option Addr) (n c : Nat) (L : List Item) (a b : Item) (Aa Ab : Option Addr) (ca cb : Nat) (w : World) (hC : itemK.C w A n L) (hL : ItemsGood L)
    (hla : a.2.length ≤ ca) (hlb : b.2.length ≤ cb) (hCa : cmdK.C w Aa a.2.length a.2) (hCb : cmdK.C w Ab b.2.length b.2) (hOa : ∀ x ∈ a.2, CmdGood x) (hOb : ∀ x ∈ b.2, CmdGood x) :
    Calls Try.prog 4 #[.slice A n c, .agg #[.int .i64 a.1.1, .int .i64 a.1.2, .slice Aa a.2.length ca], .agg #[.int .i64 b.1.1, .int .i64 b.1.2, .slice Ab b.2.length cb]] w fun r w' => r = .returned (.bool true) ∧ Fr (fun _ => False) w w' := by
  have hmx : n ≤ 9223372036854775807 := hC.2.1
  have hmxa : a.2.length ≤ 9223372036854775807 := hCa.2.1
  have hmxb : b.2.length ≤ 9223372036854775807 := hCb.2.1
  have HLn := Lib.hid (show L.length = n from hC.1)
  have HC := Lib.hid hC
  have HO := Lib.hid hL
  have HCa0 := Lib.hid hCa
  have HCb0 := Lib.hid hCb
  have HOa := Lib.hid hOa
  have HOb := Lib.hid hOb
  have hWB := ((Fr.refl (fun _ => False) w).alloc (.cells #[.int .i64 a.1.1, .int .i64 a.1.2, .slice Aa a.2.length ca] 30)).alloc (.cells #[.int .i64 b.1.1, .int .i64 b.1.2, .slice Ab b.2.length cb] 30)
  have hX4 := (Blk.newAt' w _ rfl 30 #[.int .i64 a.1.1, .int .i64 a.1.2, .slice Aa a.2.length ca]).alloc (.cells #[.int .i64 b.1.1, .int .i64 b.1.2, .slice Ab b.2.length cb] 30)
  have hX5 := Blk.newAt' (w.alloc (.cells #[.int .i64 a.1.1, .int .i64 a.1.2, .slice Aa a.2.length ca] 30)) (w.heap.size + 1) (by simp) 30 #[.int .i64 b.1.1, .int .i64 b.1.2, .slice Ab b.2.length cb]
  clear hC hL hCa hCb hOa hOb
  by_cases hbig : n ≤ 20 ∧ a.2.length ≤ 20 ∧ b.2.length ≤ 20
  · obtain ⟨hb1, hb2, hb3⟩ := hbig
    have t1 : decide ((20 : Int) < (n : Int)) = false := decide_eq_false (by omega)
    have t2 : decide ((20 : Int) < (a.2.length : Int)) = false := decide_eq_false (by omega)
    have t3 : decide ((20 : Int) < (b.2.length : Int)) = false := decide_eq_false (by omega)
    have t1' : decide (20 < n) = false := decide_eq_false (by omega)
    have t2' : decide (20 < a.2.length) = false := decide_eq_false (by omega)
    have t3' : decide (20 < b.2.length) = false := decide_eq_false (by omega)
    go_enter Try.func4, Try.ntmps4
    go_wp2_with fail
    clear t1 t2 t3 t1' t2' t3'
    generalize ((w.alloc (.cells #[.int .i64 a.1.1, .int .i64 a.1.2, .slice Aa a.2.length ca] 30)).alloc (.cells #[.int .i64 b.1.1, .int .i64 b.1.2, .slice Ab b.2.length cb] 30)) = wb at hWB hX4 hX5 ⊢
    have HX := Lib.hid (And.intro hX4.lt hX5.lt)
    have HWB := Lib.hid hWB
    have HCa := Lib.hid (Kd.C_below HCa0.out (hWB.below (fun _ _ h => h)))
    have HCb := Lib.hid (Kd.C_below HCb0.out (hWB.below (fun _ _ h => h)))
    have lt_of : ∀ {K : List Cmd} {B : Option Addr} {k : Nat}, cmdK.C wb B k K → 0 < k → ∀ ad, B = some ad → ∀ i, wb.heap.size ≤ i → ad.block = i → False := fun hq hp ad ha i hi he => by
      obtain ⟨b1, o1, ha1, h3, _⟩ := cmds_at hq hp
      rw [ha] at ha1
      cases ha1
      have h4 := World.block_lt_of_cell? wb _ h3
      simp only at h4 he
      omega
    have HNa := Lib.hid (lt_of HCa.out)
    have HNb := Lib.hid (lt_of HCb.out)
    have HCL := Lib.hid hWB
    refine (vault_new wb).mono ?_
    rintro r w1 ⟨g, S, rfl, hV, hS, hF⟩
    have HV := Lib.hid hV
    have HS := Lib.hid hS
    have HF := Lib.hid hF
    have HX4 := Lib.hid hX4
    have HX5 := Lib.hid hX5
    clear hV hS hF hX4 hX5 hWB lt_of
    generalize w.heap.size = x4 at HX4 HX5 HX ⊢
    go_wp2_with fail
    go_loopw [8] (fun i wr => ∃ (k : Nat) (S' : Nat → Prop) (m : Nat), k ≤ n ∧ i = .int .i64 k ∧ m ≤ k ∧ VaultRep wr S' g (runI (L.take k)).1 m ∧ (∀ b, S' b → wb.heap.size ≤ b) ∧ Fr (fun _ => False) wb wr) (fun i _ => n - (intOf i).toNat)
    case atStart => exact ⟨0, S, 0, Nat.zero_le _, rfl, Nat.le_refl _, HV.out, HS.out, HF.out⟩
    case round =>
      clear HV HS HF
      obtain ⟨k, S1, m1, hk, rfl, hm, hV, hS, hG⟩ := hrel
      have HVV_W := Lib.hid hV
      have HS1 := Lib.hid hS
      have HG := Lib.hid hG
      clear hV hS hG
      rcases Nat.lt_or_ge k n with hlt | hge
      · obtain ⟨bx, off, Ax, cx, rfl, hcb, hCw, h0w, h1w, h2w⟩ := items_at HC.out hlt
        have HRS := Lib.hid (runI_succ (L := L) (k := k) (by rw [HLn.out]; exact hlt))
        have HRT := Lib.hid (runI_take HO.out k (by rw [HLn.out]; omega))
        have HGD := Lib.hid (HO.out _ (itx_mem (i := k) (by rw [HLn.out]; exact hlt)))
        have hA0 : 0 < (itx L k).2.length → ∀ ad, Ax = some ad → ¬ S1 ad.block := fun hp ad ha hs => by
          obtain ⟨b1, o1, ha1, h3, _⟩ := cmds_at hCw hp
          rw [ha] at ha1
          cases ha1
          have h4 := World.block_lt_of_cell? w _ h3
          have h5 := HS1.out _ hs
          have h6 := HWB.out.size
          simp only at h4 h5
          omega
        have HA0 := Lib.hid hA0
        have hGw : Fr (fun _ => False) w wr := HWB.out.trans HG.out
        have HCx := Lib.hid (Kd.C_below hCw (hGw.drew.below (fun _ _ h => h)))
        have HVd := Lib.hid (HVV_W.out.fr (Fr.refl (fun _ => False) wr).drew (fun _ _ h => h))
        obtain ⟨St, hSt⟩ : ∃ St : World → Prop, St = Fr S1 wr := ⟨_, rfl⟩
        have HT := Lib.hid (show ∀ w', Fr S1 wr w' → At St w' from fun w' h => by unfold At; rw [hSt]; exact h)
        have hbn : ∀ x, w.cell? ⟨bx, x, none⟩ ≠ none → ¬ S1 bx := fun x hx hs => by
          cases hq : w.cell? ⟨bx, x, none⟩ with
          | none => exact hx hq
          | some v =>
            have h2 := World.block_lt_of_cell? w _ hq
            have h5 := HS1.out _ hs
            have h6 := HWB.out.size
            simp only at h2
            omega
        have lift : ∀ (x : Nat) (u : Value), w.cell? ⟨bx, x, none⟩ = some u → ∀ w', At St w' → w'.cell? ⟨bx, x, none⟩ = some u := fun x u hq w' h => by replace h := h.out; rw [hSt] at h; exact h.cell (hGw.cell hq (fun h => h)) (hbn x (by rw [hq]; simp))
        have l0 := lift _ _ h0w
        have l1 := lift _ _ h1w
        have l2 := lift _ _ h2w
        have hT0 := HT.out wr.drew (Fr.refl _ _).drew
        clear hbn lift hSt h0w h1w h2w hCw hA0 hGw
        go_wp2_with fail
        refine rt_start [] (At St) 12 (by kernel_rfl) rfl ?_
        refine rt_free 0 (v := ?_) rfl (by kernel_rfl) (by kernel_rfl) (by kernel_rfl) (by kernel_rfl) (fun _ _ _ h => h) (by rfl) (fun _ => by first | assumption | exact HS0 _ rfl | exact HT.out _ (by repeat (first | exact Fr.refl _ _ | apply Fr.drew | refine Fr.alloc ?_ _))) ?_ ?_
        rotate_left 1
        · intro w; go_simp <;> with_reducible rfl
        try simp only [Act.put, List.setIfInBounds_toArray, List.set_cons_zero, List.set_cons_succ]
        refine rt_free 1 (v := ?_) rfl (by kernel_rfl) (by kernel_rfl) (by kernel_rfl) (by kernel_rfl) (fun _ _ _ h => h) (by rfl) (fun _ => by first | assumption | exact HS0 _ rfl | exact HT.out _ (by repeat (first | exact Fr.refl _ _ | apply Fr.drew | refine Fr.alloc ?_ _))) ?_ ?_
        rotate_left 1
        · intro w; go_simp <;> with_reducible rfl
        try simp only [Act.put, List.setIfInBounds_toArray, List.set_cons_zero, List.set_cons_succ]
        refine rt_free 2 (v := ?_) rfl (by kernel_rfl) (by kernel_rfl) (by kernel_rfl) (by kernel_rfl) (fun _ _ _ h => h) (by rfl) (fun _ => by first | assumption | exact HS0 _ rfl | exact HT.out _ (by repeat (first | exact Fr.refl _ _ | apply Fr.drew | refine Fr.alloc ?_ _))) ?_ ?_
        rotate_left 1
        · intro w; go_simp <;> with_reducible rfl
        try simp only [Act.put, List.setIfInBounds_toArray, List.set_cons_zero, List.set_cons_succ]
        refine rt_free 3 (v := ?_) rfl (by kernel_rfl) (by kernel_rfl) (by kernel_rfl) (by kernel_rfl) (fun _ _ _ h => h) (by rfl) (fun _ => by first | assumption | exact HS0 _ rfl | exact HT.out _ (by repeat (first | exact Fr.refl _ _ | apply Fr.drew | refine Fr.alloc ?_ _))) ?_ ?_
        rotate_left 1
        · intro w; go_simp <;> with_reducible rfl
        try simp only [Act.put, List.setIfInBounds_toArray, List.set_cons_zero, List.set_cons_succ]
        refine rt_free 4 (v := ?_) rfl (by kernel_rfl) (by kernel_rfl) (by kernel_rfl) (by kernel_rfl) (fun _ _ _ h => h) (by rfl) (fun _ => by first | assumption | exact HS0 _ rfl | exact HT.out _ (by repeat (first | exact Fr.refl _ _ | apply Fr.drew | refine Fr.alloc ?_ _))) ?_ ?_
        rotate_left 1
        · intro w; go_simp <;> with_reducible rfl
        try simp only [Act.put, List.setIfInBounds_toArray, List.set_cons_zero, List.set_cons_succ]
        refine rt_take 5 (v := ?_) rfl (by kernel_rfl) (by kernel_rfl) (by kernel_rfl) (by kernel_rfl) (fun _ _ _ h => h) (by rfl) (by first | assumption | exact HS0 _ rfl | exact HT.out _ (by repeat (first | exact Fr.refl _ _ | apply Fr.drew | refine Fr.alloc ?_ _))) ?_ ?_
        rotate_left 1
        · intro w hSw; go_simp <;> with_reducible rfl
        try simp only [Act.put, List.setIfInBounds_toArray, List.set_cons_zero, List.set_cons_succ]
        refine rt_free 6 (v := ?_) rfl (by kernel_rfl) (by kernel_rfl) (by kernel_rfl) (by kernel_rfl) (fun _ _ _ h => h) (by rfl) (fun _ => by first | assumption | exact HS0 _ rfl | exact HT.out _ (by repeat (first | exact Fr.refl _ _ | apply Fr.drew | refine Fr.alloc ?_ _))) ?_ ?_
        rotate_left 1
        · intro w; go_simp <;> with_reducible rfl
        try simp only [Act.put, List.setIfInBounds_toArray, List.set_cons_zero, List.set_cons_succ]
        refine rt_free 7 (v := ?_) rfl (by kernel_rfl) (by kernel_rfl) (by kernel_rfl) (by kernel_rfl) (fun _ _ _ h => h) (by rfl) (fun _ => by first | assumption | exact HS0 _ rfl | exact HT.out _ (by repeat (first | exact Fr.refl _ _ | apply Fr.drew | refine Fr.alloc ?_ _))) ?_ ?_
        rotate_left 1
        · intro w; go_simp <;> with_reducible rfl
        try simp only [Act.put, List.setIfInBounds_toArray, List.set_cons_zero, List.set_cons_succ]
        refine rt_free 8 (v := ?_) rfl (by kernel_rfl) (by kernel_rfl) (by kernel_rfl) (by kernel_rfl) (fun _ _ _ h => h) (by rfl) (fun _ => by first | assumption | exact HS0 _ rfl | exact HT.out _ (by repeat (first | exact Fr.refl _ _ | apply Fr.drew | refine Fr.alloc ?_ _))) ?_ ?_
        rotate_left 1
        · intro w; go_simp <;> with_reducible rfl
        try simp only [Act.put, List.setIfInBounds_toArray, List.set_cons_zero, List.set_cons_succ]
        refine rt_free 9 (v := ?_) rfl (by kernel_rfl) (by kernel_rfl) (by kernel_rfl) (by kernel_rfl) (fun _ _ _ h => h) (by rfl) (fun _ => by first | assumption | exact HS0 _ rfl | exact HT.out _ (by repeat (first | exact Fr.refl _ _ | apply Fr.drew | refine Fr.alloc ?_ _))) ?_ ?_
        rotate_left 1
        · intro w; go_simp <;> with_reducible rfl
        try simp only [Act.put, List.setIfInBounds_toArray, List.set_cons_zero, List.set_cons_succ]
        refine rt_take 10 (v := ?_) rfl (by kernel_rfl) (by kernel_rfl) (by kernel_rfl) (by kernel_rfl) (fun _ _ _ h => h) (by rfl) (by first | assumption | exact HS0 _ rfl | exact HT.out _ (by repeat (first | exact Fr.refl _ _ | apply Fr.drew | refine Fr.alloc ?_ _))) ?_ ?_
        rotate_left 1
        · intro w hSw; go_simp <;> with_reducible rfl
        try simp only [Act.put, List.setIfInBounds_toArray, List.set_cons_zero, List.set_cons_succ]
        refine rt_one 11 rfl (by kernel_rfl) (fun K hK => ?_)
        go_simp
        refine (vault_apply (itx L k).1 Ax (itx L k).2.length cx (itx L k).2 g m1 S1 (runI (L.take k)).1 _ HVd.out HCx.out HA0.out HGD.out HRT.out.1 (by omega) (by have := HRT.out.2.1; omega)).mono ?_
        rintro r W2 hAp
        obtain ⟨v2, S2, m2, rfl, hV2, hm2, hS2, hF2, hR2⟩ := hAp.both HVd.out
        have hF2' := (Fr.refl S1 wr).drew.trans hF2
        have hT2 := HT.out _ hF2'
        go_wp2_with fail
        refine hK.out (At St) _ _ (fun _ h => h) (fun _ => by (assumption)) ?_
        clear hK K
        try simp only [Act.put, List.setIfInBounds_toArray, List.set_cons_zero, List.set_cons_succ]
        refine rt_done (by kernel_rfl) ?_
        have HV2 := Lib.hid hV2
        have HS2 := Lib.hid (show ∀ b, S2 b → wb.heap.size ≤ b from fun b hb => (hS2 b hb).elim (HS1.out b) (fun h => Nat.le_trans HG.out.size h))
        have HG2 := Lib.hid (HG.out.trans' hF2' (fun i hi h => by have := HS1.out i h; omega))
        clear l0 l1 l2 hT0 hT2 hAp hV2 hS2 hF2 hF2' hR2
        go_wp2_with fail
        go_roundw
        case rel =>
          refine ⟨k + 1, S2, m2, by omega, by go_num, by omega, ?_, HS2.out, HG2.out⟩
          rw [HRS.out, stepI_ap]
          exact HV2.out
        case measure => simp [intOf]; omega
      · obtain rfl : n = k := by omega
        have tnn : decide (n < n) = false := decide_eq_false (by omega)
        have hrt := runI_take HO.out n (by rw [HLn.out]; omega)
        obtain ⟨H0, hH0⟩ : ∃ H0, H0 = (runI (L.take n)).1 := ⟨_, rfl⟩
        rw [← hH0] at HVV_W hrt
        have HG0 := Lib.hid hrt.1
        have HL0 := Lib.hid (show H0.length ≤ 160 from by have := hrt.2.1; omega)
        clear hrt hH0
        go_wp2_with fail
        refine (vault_twin g m1 S1 H0 wr HVV_W.out (by have := HL0.out; omega)).mono ?_
        rintro r W0 ⟨g2, S2, rfl, hT, hS2, hFt⟩
        have HVV_W0 := Lib.hid (HVV_W.out.fr hFt (fun _ _ h => h))
        have HVT_W0 := Lib.hid hT
        have HBV_W0 := HS1
        have HBT_W0 := Lib.hid (show ∀ b, S2 b → wb.heap.size ≤ b from fun b hb => Nat.le_trans HG.out.size (hS2 b hb))
        have HD_W0 := Lib.hid (show ∀ b, S1 b → ¬ S2 b from fun b hb h => by have h1 := HVV_W.out.lt b hb; have h2 := hS2 b h; omega)
        have HF_W0 := Lib.hid (HG.out.trans hFt)
        have HGV_W0 := HG0
        have HGT_W0 := HG0
        have HLV_W0 := HL0
        have HLT_W0 := HL0
        have HX4_W0 := Lib.hid (HX4.out.fr HF_W0.out (fun h => h))
        have HX5_W0 := Lib.hid (HX5.out.fr HF_W0.out (fun h => h))
        obtain ⟨m2, hm2⟩ : ∃ m2, m2 = m1 := ⟨_, rfl⟩
        rw [← hm2] at HVT_W0
        have hmm : m2 ≤ n := by omega
        obtain ⟨ea, hea⟩ : ∃ z, z = errBat a.2 := ⟨_, rfl⟩
        obtain ⟨eb, heb⟩ : ∃ z, z = errBat b.2 := ⟨_, rfl⟩
        have HEa := Lib.hid hea
        have HEb := Lib.hid heb
        clear hT hS2 hFt hea heb hm2 tnn
        have c0 := HX4_W0.out.cell 0
        have c1 := HX4_W0.out.cell 1
        have c2 := HX4_W0.out.cell 2
        simp only [List.getElem?_toArray, List.getElem?_cons_zero, List.getElem?_cons_succ] at c0 c1 c2
        go_wp2_with fail
        refine (vault_apply a.1 Aa a.2.length ca a.2 g m1 S1 (H0) W0 HVV_W0.out (Kd.C_below HCa.out (HF_W0.out.below (fun _ _ h => h))) (fun hp ad ha hs => HNa.out hp ad ha _ (HBV_W0.out _ hs) rfl) HOa.out HGV_W0.out (by omega) (by have := HLV_W0.out; omega)).mono ?_
        rintro r W1 hAp
        obtain ⟨vx, S1_1, m1_1, rfl, hV, hm, hS, hF, hR⟩ := hAp.both HVV_W0.out
        obtain ⟨Ax, cx, rfl⟩ := Kd.R_slice hR
        rw [← HEa.out]
        have HVV_W1 := Lib.hid hV
        have HBV_W1 := Lib.hid (show ∀ b, S1_1 b → wb.heap.size ≤ b from fun b hb => (hS b hb).elim (HBV_W0.out b) (fun h => Nat.le_trans HF_W0.out.size h))
        have HD_W1 := Lib.hid (show ∀ b, S1_1 b → ¬ S2 b from fun b hb h => (hS b hb).elim (fun h1 => HD_W0.out b h1 h) (fun h1 => absurd (HVT_W0.out.lt b h) (by omega)))
        have HVT_W1 := Lib.hid (HVT_W0.out.fr hF (fun b hb h => HD_W0.out b h hb))
        have HBT_W1 := HBT_W0
        have HF_W1 := Lib.hid (HF_W0.out.trans' hF (fun i hi h => by have := HBV_W0.out i h; omega))
        have HGV_W1 := Lib.hid (apH_good a.1 HGV_W0.out HOa.out)
        have HLV_W1 := Lib.hid (show (apH (H0) a.1 a.2).length ≤ _ from Nat.le_trans (apH_len (H0) a.1 a.2) (Nat.add_le_add_right HLV_W0.out 8))
        have HGT_W1 := HGT_W0
        have HLT_W1 := HLT_W0
        have HX4_W1 := Lib.hid (HX4_W0.out.fr hF (fun h => by have h1 := HBV_W0.out _ h; have h2 := HX.out; omega))
        have HX5_W1 := Lib.hid (HX5_W0.out.fr hF (fun h => by have h1 := HBV_W0.out _ h; have h2 := HX.out; omega))
        have HRx_W1 := Lib.hid (Kd.R_mono (Kd.R_bound hR) (ok' := fun b => ¬ S1_1 b ∧ ¬ S2 b) (fun b hb => ⟨hb.1, fun h => absurd (HVT_W0.out.lt b h) (by omega)⟩))
        clear c0 c1 c2 hAp hV hS hF hR
        have c0 := HX5_W1.out.cell 0
        have c1 := HX5_W1.out.cell 1
        have c2 := HX5_W1.out.cell 2
        simp only [List.getElem?_toArray, List.getElem?_cons_zero, List.getElem?_cons_succ] at c0 c1 c2
        go_wp2_with fail
        refine (vault_apply b.1 Ab b.2.length cb b.2 g m1_1 S1_1 (apH (H0) a.1 a.2) W1 HVV_W1.out (Kd.C_below HCb.out (HF_W1.out.below (fun _ _ h => h))) (fun hp ad ha hs => HNb.out hp ad ha _ (HBV_W1.out _ hs) rfl) HOb.out HGV_W1.out (by omega) (by have := HLV_W1.out; omega)).mono ?_
        rintro r W2 hAp
        obtain ⟨vy, S1_1_2, m1_1_2, rfl, hV, hm, hS, hF, hR⟩ := hAp.both HVV_W1.out
        obtain ⟨Ay, cy, rfl⟩ := Kd.R_slice hR
        rw [← HEb.out]
        have HVV_W2 := Lib.hid hV
        have HBV_W2 := Lib.hid (show ∀ b, S1_1_2 b → wb.heap.size ≤ b from fun b hb => (hS b hb).elim (HBV_W1.out b) (fun h => Nat.le_trans HF_W1.out.size h))
        have HD_W2 := Lib.hid (show ∀ b, S1_1_2 b → ¬ S2 b from fun b hb h => (hS b hb).elim (fun h1 => HD_W1.out b h1 h) (fun h1 => absurd (HVT_W1.out.lt b h) (by omega)))
        have HVT_W2 := Lib.hid (HVT_W1.out.fr hF (fun b hb h => HD_W1.out b h hb))
        have HBT_W2 := HBT_W1
        have HF_W2 := Lib.hid (HF_W1.out.trans' hF (fun i hi h => by have := HBV_W1.out i h; omega))
        have HGV_W2 := Lib.hid (apH_good b.1 HGV_W1.out HOb.out)
        have HLV_W2 := Lib.hid (show (apH (apH (H0) a.1 a.2) b.1 b.2).length ≤ _ from Nat.le_trans (apH_len (apH (H0) a.1 a.2) b.1 b.2) (Nat.add_le_add_right HLV_W1.out 8))
        have HGT_W2 := HGT_W1
        have HLT_W2 := HLT_W1
        have HX4_W2 := Lib.hid (HX4_W1.out.fr hF (fun h => by have h1 := HBV_W1.out _ h; have h2 := HX.out; omega))
        have HX5_W2 := Lib.hid (HX5_W1.out.fr hF (fun h => by have h1 := HBV_W1.out _ h; have h2 := HX.out; omega))
        have HRx_W2 := Lib.hid (res_step HRx_W1.out hS hF)
        have HRy_W2 := Lib.hid (Kd.R_mono (Kd.R_bound hR) (ok' := fun b => ¬ S1_1_2 b ∧ ¬ S2 b) (fun b hb => ⟨hb.1, fun h => absurd (HVT_W1.out.lt b h) (by omega)⟩))
        clear c0 c1 c2 hAp hV hS hF hR
        have c0 := HX5_W2.out.cell 0
        have c1 := HX5_W2.out.cell 1
        have c2 := HX5_W2.out.cell 2
        simp only [List.getElem?_toArray, List.getElem?_cons_zero, List.getElem?_cons_succ] at c0 c1 c2
        go_wp2_with fail
        refine (vault_apply b.1 Ab b.2.length cb b.2 g2 m2 S2 (H0) W2 HVT_W2.out (Kd.C_below HCb.out (HF_W2.out.below (fun _ _ h => h))) (fun hp ad ha hs => HNb.out hp ad ha _ (HBT_W2.out _ hs) rfl) HOb.out HGT_W2.out (by omega) (by have := HLT_W2.out; omega)).mono ?_
        rintro r W3 hAp
        obtain ⟨vp, S2_3, m2_3, rfl, hV, hm, hS, hF, hR⟩ := hAp.both HVT_W2.out
        obtain ⟨Ap, cp, rfl⟩ := Kd.R_slice hR
        rw [← HEb.out]
        have HVT_W3 := Lib.hid hV
        have HBT_W3 := Lib.hid (show ∀ b, S2_3 b → wb.heap.size ≤ b from fun b hb => (hS b hb).elim (HBT_W2.out b) (fun h => Nat.le_trans HF_W2.out.size h))
        have HD_W3 := Lib.hid (show ∀ b, S1_1_2 b → ¬ S2_3 b from fun b hb h => (hS b h).elim (fun h1 => HD_W2.out b hb h1) (fun h1 => absurd (HVV_W2.out.lt b hb) (by omega)))
        have HVV_W3 := Lib.hid (HVV_W2.out.fr hF (fun b hb h => HD_W2.out b hb h))
        have HBV_W3 := HBV_W2
        have HF_W3 := Lib.hid (HF_W2.out.trans' hF (fun i hi h => by have := HBT_W2.out i h; omega))
        have HGT_W3 := Lib.hid (apH_good b.1 HGT_W2.out HOb.out)
        have HLT_W3 := Lib.hid (show (apH (H0) b.1 b.2).length ≤ _ from Nat.le_trans (apH_len (H0) b.1 b.2) (Nat.add_le_add_right HLT_W2.out 8))
        have HGV_W3 := HGV_W2
        have HLV_W3 := HLV_W2
        have HX4_W3 := Lib.hid (HX4_W2.out.fr hF (fun h => by have h1 := HBT_W2.out _ h; have h2 := HX.out; omega))
        have HX5_W3 := Lib.hid (HX5_W2.out.fr hF (fun h => by have h1 := HBT_W2.out _ h; have h2 := HX.out; omega))
        have HRx_W3 := Lib.hid (res_step' HRx_W2.out hS hF)
        have HRy_W3 := Lib.hid (res_step' HRy_W2.out hS hF)
        have HRp_W3 := Lib.hid (Kd.R_mono (Kd.R_bound hR) (ok' := fun b => ¬ S1_1_2 b ∧ ¬ S2_3 b) (fun b hb => ⟨fun h => absurd (HVV_W2.out.lt b h) (by omega), hb.1⟩))
        clear c0 c1 c2 hAp hV hS hF hR
        have c0 := HX4_W3.out.cell 0
        have c1 := HX4_W3.out.cell 1
        have c2 := HX4_W3.out.cell 2
        simp only [List.getElem?_toArray, List.getElem?_cons_zero, List.getElem?_cons_succ] at c0 c1 c2
        go_wp2_with fail
        refine (vault_apply a.1 Aa a.2.length ca a.2 g2 m2_3 S2_3 (apH (H0) b.1 b.2) W3 HVT_W3.out (Kd.C_below HCa.out (HF_W3.out.below (fun _ _ h => h))) (fun hp ad ha hs => HNa.out hp ad ha _ (HBT_W3.out _ hs) rfl) HOa.out HGT_W3.out (by omega) (by have := HLT_W3.out; omega)).mono ?_
        rintro r W4 hAp
        obtain ⟨vq, S2_3_4, m2_3_4, rfl, hV, hm, hS, hF, hR⟩ := hAp.both HVT_W3.out
        obtain ⟨Aq, cq, rfl⟩ := Kd.R_slice hR
        rw [← HEa.out]
        have HVT_W4 := Lib.hid hV
        have HBT_W4 := Lib.hid (show ∀ b, S2_3_4 b → wb.heap.size ≤ b from fun b hb => (hS b hb).elim (HBT_W3.out b) (fun h => Nat.le_trans HF_W3.out.size h))
        have HD_W4 := Lib.hid (show ∀ b, S1_1_2 b → ¬ S2_3_4 b from fun b hb h => (hS b h).elim (fun h1 => HD_W3.out b hb h1) (fun h1 => absurd (HVV_W3.out.lt b hb) (by omega)))
        have HVV_W4 := Lib.hid (HVV_W3.out.fr hF (fun b hb h => HD_W3.out b hb h))
        have HBV_W4 := HBV_W3
        have HF_W4 := Lib.hid (HF_W3.out.trans' hF (fun i hi h => by have := HBT_W3.out i h; omega))
        have HGT_W4 := Lib.hid (apH_good a.1 HGT_W3.out HOa.out)
        have HLT_W4 := Lib.hid (show (apH (apH (H0) b.1 b.2) a.1 a.2).length ≤ _ from Nat.le_trans (apH_len (apH (H0) b.1 b.2) a.1 a.2) (Nat.add_le_add_right HLT_W3.out 8))
        have HGV_W4 := HGV_W3
        have HLV_W4 := HLV_W3
        have HX4_W4 := Lib.hid (HX4_W3.out.fr hF (fun h => by have h1 := HBT_W3.out _ h; have h2 := HX.out; omega))
        have HX5_W4 := Lib.hid (HX5_W3.out.fr hF (fun h => by have h1 := HBT_W3.out _ h; have h2 := HX.out; omega))
        have HRx_W4 := Lib.hid (res_step' HRx_W3.out hS hF)
        have HRy_W4 := Lib.hid (res_step' HRy_W3.out hS hF)
        have HRp_W4 := Lib.hid (res_step' HRp_W3.out hS hF)
        have HRq_W4 := Lib.hid (Kd.R_mono (Kd.R_bound hR) (ok' := fun b => ¬ S1_1_2 b ∧ ¬ S2_3_4 b) (fun b hb => ⟨fun h => absurd (HVV_W3.out.lt b h) (by omega), hb.1⟩))
        clear c0 c1 c2 hAp hV hS hF hR
        have tea : (ea != ea) = false := by simp
        have teb : (eb != eb) = false := by simp
        have c4 := HX4_W4.out.cell 2
        have c5 := HX5_W4.out.cell 2
        simp only [List.getElem?_toArray, List.getElem?_cons_zero, List.getElem?_cons_succ] at c4 c5
        go_wp2_with fail
        clear tea teb
        refine (ref_conf7 Aa Ab a.2.length ca b.2.length cb a.2 b.2 W4 (Kd.C_below HCa.out (HF_W4.out.below (fun _ _ h => h))) (Kd.C_below HCb.out (HF_W4.out.below (fun _ _ h => h))) HOa.out HOb.out (by omega) (by omega)).mono ?_
        rintro r W5 ⟨rfl, hF5⟩
        have F5 := Lib.hid hF5
        clear hF5 c4 c5
        by_cases hcf : ∃ x ∈ a.2, ∃ y ∈ b.2, confP x y
        · rw [cdec_true hcf]
          clear hcf
          go_wp2_with fail
          refine (works13 _).mono ?_
          rintro e w9 ⟨rfl, hF9⟩
          go_wp2_with fail
          go_ret
          exact ⟨rfl, HWB.out.trans ((HF_W4.out.trans F5.out).trans hF9)⟩
        · rw [cdec_false hcf]
          obtain ⟨hsame, hxq, hyp⟩ := swap_same (H0) a.1 b.1 a.2 b.2 hcf
          have HSAME := Lib.hid hsame
          have HXQ := Lib.hid hxq
          have HYP := Lib.hid hyp
          clear hcf hsame hxq hyp
          have HCx := Lib.hid (Kd.C_below (Kd.R_reads' HRx_W4.out).2.2 (F5.out.below (fun _ _ h => h)))
          have HCq := Lib.hid (Kd.C_below (Kd.R_reads' HRq_W4.out).2.2 (F5.out.below (fun _ _ h => h)))
          have HCy := Lib.hid (Kd.C_below (Kd.R_reads' HRy_W4.out).2.2 (F5.out.below (fun _ _ h => h)))
          have HCp := Lib.hid (Kd.C_below (Kd.R_reads' HRp_W4.out).2.2 (F5.out.below (fun _ _ h => h)))
          have HVV5 := Lib.hid (HVV_W4.out.fr F5.out (fun _ _ h => h))
          have HVT5 := Lib.hid (HVT_W4.out.fr F5.out (fun _ _ h => h))
          go_wp2_with fail
          refine (same_results Ax Aq _ cx _ cq _ _ W5 HCx.out HCq.out (by rw [HXQ.out]) (apT_ok HG0.out HOa.out) (apT_ok (apH_good b.1 HG0.out HOb.out) HOa.out)).mono ?_
          rintro r W6 ⟨rfl, hF6⟩
          have F6 := Lib.hid hF6
          clear hF6
          go_wp2_with fail
          refine (same_results Ay Ap _ cy _ cp _ _ W6 (Kd.C_below HCy.out (F6.out.below (fun _ _ h => h))) (Kd.C_below HCp.out (F6.out.below (fun _ _ h => h))) (by rw [HYP.out]) (apT_ok (apH_good a.1 HG0.out HOa.out) HOb.out) (apT_ok HG0.out HOb.out)).mono ?_
          rintro r W7 ⟨rfl, hF7⟩
          have F7 := Lib.hid (F6.out.trans hF7)
          clear hF7
          go_wp2_with fail
          refine (vault_same g g2 _ _ _ _ (apH (apH (H0) a.1 a.2) b.1 b.2) (apH (apH (H0) b.1 b.2) a.1 a.2) W7 (HVV5.out.fr F7.out (fun _ _ h => h)) (HVT5.out.fr F7.out (fun _ _ h => h)) HGV_W4.out HGT_W4.out).mono ?_
          rintro r W8 ⟨rfl, hF8⟩
          rw [cdec_true HSAME.out]
          have F8 := Lib.hid (F7.out.trans hF8)
          clear hF8
          go_wp2_with fail
          refine (vault_same g2 g _ _ _ _ (apH (apH (H0) b.1 b.2) a.1 a.2) (apH (apH (H0) a.1 a.2) b.1 b.2) W8 (HVT5.out.fr F8.out (fun _ _ h => h)) (HVV5.out.fr F8.out (fun _ _ h => h)) HGT_W4.out HGV_W4.out).mono ?_
          rintro r W9 ⟨rfl, hF9⟩
          rw [cdec_true (SameH.symm HSAME.out)]
          have F9 := Lib.hid (F8.out.trans hF9)
          clear hF9
          go_wp2_with fail
          refine (vault_digest g _ _ (apH (apH (H0) a.1 a.2) b.1 b.2) W9 (HVV5.out.fr F9.out (fun _ _ h => h)) HGV_W4.out (by have := HLV_W4.out; omega)).mono ?_
          rintro r W10 ⟨ks1, hk1, rfl, hF10⟩
          have F10 := Lib.hid (F9.out.trans hF10)
          have HK1 := Lib.hid hk1
          clear hF10 hk1
          go_wp2_with fail
          refine (vault_digest g2 _ _ (apH (apH (H0) b.1 b.2) a.1 a.2) W10 (HVT5.out.fr F10.out (fun _ _ h => h)) HGT_W4.out (by have := HLT_W4.out; omega)).mono ?_
          rintro r W11 ⟨ks2, hk2, rfl, hF11⟩
          have F11 := Lib.hid (F10.out.trans hF11)
          have hdg : digV (apH (apH (H0) a.1 a.2) b.1 b.2) ks1 = digV (apH (apH (H0) b.1 b.2) a.1 a.2) ks2 := by rw [KeysV.one HK1.out hk2 (fun k => (HSAME.out k).1), digV_same (fun k => (HSAME.out k).1)]
          rw [hdg]
          clear hF11 hk2 hdg
          obtain ⟨z, hz⟩ : ∃ z : Nat, z = digV (apH (apH (H0) b.1 b.2) a.1 a.2) ks2 := ⟨_, rfl⟩
          rw [← hz]
          have hzz : ((z : Int) == (z : Int)) = true := by simp
          clear hz
          go_wp2_with fail
          refine (works13 _).mono ?_
          rintro e W12 ⟨rfl, hF12⟩
          have F12 := Lib.hid (F11.out.trans hF12)
          clear hF12
          go_wp2_with fail
          go_ret
          exact ⟨rfl, HWB.out.trans ((HF_W4.out.trans F5.out).trans F12.out)⟩
  · have hw : ∀ W : World, Calls Try.prog 5 #[] W fun r w' => r = .returned (.bool true) ∧ Fr (fun _ => False) W w' := works13
    have HWB := Lib.hid hWB
    have HWK := Lib.hid hw
    clear hX4 hX5 hWB hw
    rcases Nat.lt_or_ge 20 n with h1 | h1
    · have t1 : decide ((20 : Int) < (n : Int)) = true := decide_eq_true (by omega)
      have t1' : decide (20 < n) = true := decide_eq_true (by omega)
      go_enter Try.func4, Try.ntmps4
      go_wp2_with fail
      refine (HWK.out _).mono ?_
      rintro e w9 ⟨rfl, hF9⟩
      go_wp2_with fail
      go_ret
      exact ⟨rfl, HWB.out.trans hF9⟩
    have t1 : decide ((20 : Int) < (n : Int)) = false := decide_eq_false (by omega)
    have t1' : decide (20 < n) = false := decide_eq_false (by omega)
    rcases Nat.lt_or_ge 20 a.2.length with h2 | h2
    · have t2 : decide ((20 : Int) < (a.2.length : Int)) = true := decide_eq_true (by omega)
      have t2' : decide (20 < a.2.length) = true := decide_eq_true (by omega)
      go_enter Try.func4, Try.ntmps4
      go_wp2_with fail
      refine (HWK.out _).mono ?_
      rintro e w9 ⟨rfl, hF9⟩
      go_wp2_with fail
      go_ret
      exact ⟨rfl, HWB.out.trans hF9⟩
    have t2 : decide ((20 : Int) < (a.2.length : Int)) = false := decide_eq_false (by omega)
    have t2' : decide (20 < a.2.length) = false := decide_eq_false (by omega)
    have h3 : 20 < b.2.length := by omega
    have t3 : decide ((20 : Int) < (b.2.length : Int)) = true := decide_eq_true (by omega)
    have t3' : decide (20 < b.2.length) = true := decide_eq_true (by omega)
    go_enter Try.func4, Try.ntmps4
    go_wp2_with fail
    refine (HWK.out _).mono ?_
    rintro e w9 ⟨rfl, hF9⟩
    go_wp2_with fail
    go_ret
    exact ⟨rfl, HWB.out.trans hF9⟩
end Go.Proofs.Ytepfhcimmbkilaa
