/- Texts of VaultApplies, merged (15 of 33): VaultA. -/
import Derived.Test.YtepfhcimmbkilaaGVaultApplies10
set_option linter.unusedVariables false
set_option linter.unusedSimpArgs false
/- Vaults: what Apply does. -/
namespace Go.Proofs.Ytepfhcimmbkilaa
open Go.RowKit
open Go.Proofs.YtepfhcimmbkilaaW.PrintWords

theorem zero_cell (w : World) : (zeroValue 53).run Try.prog w = .ok (cellV (false, 0)) w := by kernel_rfl
theorem zero_wrs (w : World) : (zeroValue 57).run Try.prog w = .ok (.slice none 0 0) w := by kernel_rfl
theorem errBat_cases (L : List Cmd) : (errBat L = 0 ∧ L.length ≤ 8 ∧ batOk L) ∨ errBat L = 5 ∨ errBat L = 12 := by
  rcases Nat.lt_or_ge 8 L.length with h | h
  · exact .inr (.inl (errBat_big h))
  · by_cases h2 : batOk L
    · exact .inl ⟨errBat_ok (by omega) h2, h, h2⟩
    · right; right
      unfold errBat
      rw [if_neg (by omega), cdec_false h2]
      rfl
def Applied (w : World) (S : Nat → Prop) (g : Nat) (H : List HE) (m : Nat) (id : Int × Int) (L : List Cmd) (r : Ending) (w' : World) : Prop :=
  (errBat L = 0 ∧ ∃ v S', r = .returned (.tuple #[v, .int .i64 0]) ∧ VaultRep w' S' g (H ++ tagN id L L.length) (m + 1) ∧ (∀ b, S' b → S b ∨ w.heap.size ≤ b) ∧ Fr S w w' ∧ resK.R 55 w' w.heap.size (fun b => ¬ S' b) v (toldN H id L L.length)) ∨
  (errBat L ≠ 0 ∧ r = .returned (.tuple #[.slice none 0 0, .int .i64 (errBat L)]) ∧ Fr (fun _ => False) w w')
set_option maxRecDepth 100000 in
set_option maxHeartbeats 4000000 in
theorem vault_apply (id : Int × Int) (A : Option Addr) (n c : Nat) (L : List Cmd) (g m : Nat) (S : Nat → Prop) (H : List HE) (w : World) (h : VaultRep w S g H m) (hC : cmdK.C w A n L) (hA : 0 < n → ∀ ad, A = some ad → ¬ S ad.block)
    (hL : ∀ x ∈ L, CmdGood x) (hH : HGood H) (hm : m < 1000000000) (hHl : H.length ≤ 1000000000) :
    Calls Try.prog 8 #[.pointer (some ⟨g, 0, none⟩), idV id, .slice A n c] w (Applied w S g H m id L) := by
  have HLn := Lib.hid (show L.length = n from hC.1)
  have hB4 := Blk.new w 27 #[.int .i64 id.1, .int .i64 id.2]
  have hF0 := (Fr.refl (fun _ => False) w).alloc (.cells #[.int .i64 id.1, .int .i64 id.2] 27)
  have HC := Lib.hid hC
  have HA := Lib.hid hA
  have HO := Lib.hid hL
  have HH := Lib.hid hH
  have HV := Lib.hid h
  clear h hC hA hL hH
  rcases errBat_cases L with ⟨he, hl8, hok⟩ | he | he
  · have HE := Lib.hid he
    have HL8 := Lib.hid hl8
    have HOK := Lib.hid hok
    obtain ⟨mc, ml, F, Lh, hV⟩ := HV.out
    go_enter Try.func8, Try.ntmps8
    go_wp2_with fail
    refine (bat_check A n c L _ (Kd.C_below HC.out (hF0.below (fun _ _ h => h))) HO.out).mono ?_
    rintro r w2 ⟨rfl, hF2⟩
    rw [he]
    have hV2 := hV.fr (hF0.trans hF2) (fun _ _ h => h)
    have v0 := hV2.blk.cell 0
    have v1 := hV2.blk.cell 1
    have v2 := hV2.blk.cell 2
    have vf := hV2.blk.frozen
    simp only [List.getElem?_toArray, List.getElem?_cons_zero, List.getElem?_cons_succ] at v0 v1 v2
    clear he hl8 hok
    go_wp2_with fail
    have hV3 : VaultAt (w2.setCell ⟨g, 2, none⟩ (.int .i64 ((m : Int) + 1))) S g mc ml F Lh (H ++ tagN id L 0) (m + 1) := by
      have hf2 : Fr (fun b => b = g) w2 (w2.setCell ⟨g, 2, none⟩ (.int .i64 ((m : Int) + 1))) := (Fr.refl (fun b => b = g) w2).setCell (p := ⟨g, 2, none⟩) (.inl rfl) _
      have e1 : g ≠ mc := hV2.cells.ne_blk hV2.blk
      have e2 : g ≠ ml := hV2.logs.ne_blk hV2.blk
      have e3 : H ++ tagN id L 0 = H := by unfold tagN; simp
      rw [e3]
      refine ⟨?_, hV2.own, hV2.ne, hV2.cells.fr hf2 (fun e => e1 e.symm), hV2.cell, hV2.logs.fr hf2 (fun e => e2 e.symm), ⟨fun k h hk => ?_, hV2.log.none_, hV2.log.apart⟩, fun k hk => Nat.lt_of_lt_of_le (hV2.lt k hk) hf2.size⟩
      · have := hV2.blk.set_ 2 (.int .i64 ((m : Int) + 1))
        rw [show ((m : Int) + 1) = ((m + 1 : Nat) : Int) from by omega] at this ⊢
        exact this
      · exact Kd.R_mono (Kd.R_far (Kd.R_types (hV2.log.row k h hk) hV2.blk (by decide)) (p := ⟨g, 2, none⟩) (fun k hk => hk.2) _) (fun _ hk => hk.1)
    have hF3 : Fr S w (w2.setCell ⟨g, 2, none⟩ (.int .i64 ((m : Int) + 1))) := ((hF0.trans hF2).mono (fun _ _ h => h.elim)).setCell (p := ⟨g, 2, none⟩) (.inl hV.own.1) _
    have hB4' : Blk (w2.setCell ⟨g, 2, none⟩ (.int .i64 ((m : Int) + 1))) w.heap.size 27 #[.int .i64 id.1, .int .i64 id.2] := (hB4.fr hF2 (fun h => h)).far (p := ⟨g, 2, none⟩) (fun e => by have h1 := hV.lt _ hV.own.1; have h2 : w.heap.size = g := e; omega) _
    have hS4 : ¬ S w.heap.size := fun h => Nat.lt_irrefl _ (hV.lt _ h)
    generalize w2.setCell ⟨g, 2, none⟩ (.int .i64 ((m : Int) + 1)) = W3 at hV3 hF3 hB4' ⊢
    have HV3 := Lib.hid hV3
    have HF3 := Lib.hid hF3
    obtain ⟨b4, hb4⟩ : ∃ b, b = w.heap.size := ⟨_, rfl⟩
    have HB4E := Lib.hid hb4
    rw [← hb4] at hB4' hS4 ⊢
    have HB4 := Lib.hid hB4'
    have HS4 := Lib.hid hS4
    clear hV3 hF3 hB4' hS4 hb4 v0 v1 v2 vf hV2 hF2 hF0 hB4 hV
    go_loopw [9, 30] (fun u9 i wr => ∃ (k : Nat) (S' : Nat → Prop) (F' : ByteArray → Option CellD) (Lh' : ByteArray → Option Hdr), k ≤ n ∧ i = .int .i64 k ∧ VaultAt wr S' g mc ml F' Lh' (H ++ tagN id L k) (m + 1) ∧ (∀ b, S' b → S b ∨ (w.heap.size ≤ b ∧ b ≠ b4)) ∧ Fr S w wr ∧ resK.R 55 wr w.heap.size (fun b => ¬ S' b) u9 (toldN H id L k) ∧ Blk wr b4 27 #[.int .i64 id.1, .int .i64 id.2]) (fun _ i _ => n - (intOf i).toNat)
    case atStart => exact ⟨0, S, F, Lh, Nat.zero_le _, rfl, HV3.out, fun _ h => .inl h, HF3.out, Kd.R_nil _ _ _ _ _, HB4.out⟩
    case round =>
      obtain ⟨k, S', F', Lh', hk, rfl, hV', hS', hG, hR9, hb4⟩ := hrel
      have HVr := Lib.hid hV'
      have HS' := Lib.hid hS'
      have HG := Lib.hid hG
      have HR9 := Lib.hid hR9
      have HBr := Lib.hid hb4
      obtain ⟨A9, c9, rfl⟩ := Kd.R_slice hR9
      rw [toldN_len] at *
      clear hV' hS' hG hR9 hb4 HV3 HF3 HB4
      rcases Nat.lt_or_ge k n with hlt | hge
      · have HCr := Lib.hid (cmdFlat.C_move HC.out (w' := wr) (fun hp ad ha => HG.out.block ad.block (by
          obtain ⟨b, off, ha2, h0, _⟩ := cmds_at HC.out hp
          rw [ha] at ha2
          cases ha2
          exact World.block_lt_of_cell? w ⟨b, off + 0 * 3, none⟩ h0) (HA.out hp ad ha)))
        obtain ⟨b, off, rfl, h0, h1, h2⟩ := cmds_at HCr.out hlt
        have hX := Blk.new wr 37 #[.int .i64 (cmx L k).1, .string (cmx L k).2.1, .float .f64 (cmx L k).2.2]
        have hf1 := (Fr.refl (fun _ => False) wr).alloc (.cells #[.int .i64 (cmx L k).1, .string (cmx L k).2.1, .float .f64 (cmx L k).2.2] 37)
        go_wp2_with fail
        rename_i K1 hK1
        generalize wr.alloc (.cells #[.int .i64 (cmx L k).1, .string (cmx L k).2.1, .float .f64 (cmx L k).2.2] 37) = W1 at hX hf1 ⊢
        obtain ⟨b11, hb11⟩ : ∃ b, b = wr.heap.size := ⟨_, rfl⟩
        rw [← hb11] at hX ⊢
        have HX := Lib.hid hX
        have HF1 := Lib.hid hf1
        have hV1 := HVr.out.fr hf1 (fun _ _ h => h)
        have HV1 := Lib.hid hV1
        have HB11 := Lib.hid hb11
        have hcg := HO.out _ (cmx_mem (i := k) (by rw [HLn.out]; exact hlt))
        have HCG := Lib.hid hcg
        have hHg := HGood.append HH.out (tagN_good (id := id) (L := L) (k := k) (by rw [HLn.out]; exact hk) HO.out)
        have hcc := cellOf_canon hHg (cmx L k).2.1
        have HHG := Lib.hid hHg
        have HCC := Lib.hid hcc
        obtain ⟨ob, hob⟩ : ∃ o, o = cellOf (H ++ tagN id L k) (cmx L k).2.1 := ⟨_, rfl⟩
        have HOB := Lib.hid hob
        obtain ⟨ou, hou⟩ : ∃ o, o = (doC ob (cmx L k)).1 := ⟨_, rfl⟩
        have HOU := Lib.hid hou
        obtain ⟨ot, hot⟩ : ∃ o, o = (doC ob (cmx L k)).2 := ⟨_, rfl⟩
        have HOT := Lib.hid hot
        clear h0 h1 h2 hX hf1 hb11 hV1 hcg hcc hHg hob hou hot
        have cont : ∀ (n12 n13 : Nat) (W : World), Blk W n12 53 #[.bool ou.1, .float .f64 ou.2] → Blk W n13 53 #[.bool ot.1, .float .f64 ot.2] → n12 ≠ n13 → W1.heap.size ≤ n12 → W1.heap.size ≤ n13 → Fr (fun _ => False) W1 W →
            K1 { tmps := #[.pointer (some ⟨g, 0, none⟩), idV id, .slice (some ⟨b, off, none⟩) n c, undef, .pointer (some ⟨b4, 0, none⟩), undef, .slice none 0 0, .int .i64 0, .int .i64 0, .slice A9 k c9, .int .i64 (k : Int), .pointer (some ⟨b11, 0, none⟩), .pointer (some ⟨n12, 0, none⟩), .pointer (some ⟨n13, 0, none⟩), .pointer (some ⟨g, 0, none⟩), .bool false, .slice (some ⟨b, off, none⟩) n c, .int .i64 0, .int .i64 0, .bool false, undef, .pointer (some ⟨g, 0, none⟩), .pointer (some ⟨g, 0, none⟩), .pointer (some ⟨g, 2, none⟩), .int .i64 (m : Int), .int .i64 ((m : Int) + 1), .pointer (some ⟨g, 0, none⟩), .pointer (some ⟨g, 2, none⟩), .slice (some ⟨b, off, none⟩) n c, .int .i64 (n : Int), .int .i64 (k : Int), .bool true, .int .i64 (k : Int), .pointer (some ⟨b, off + k * 3, none⟩), .agg #[.int .i64 (cmx L k).fst, .string (cmx L k).snd.fst, .float .f64 (cmx L k).snd.snd], .tuple #[cellV ou, cellV ot], .pointer (some ⟨g, 0, none⟩), .pointer (some ⟨g, 0, none⟩), .pointer (some ⟨g, 0, none⟩), .map (some mc), .pointer (some ⟨b11, 1, none⟩), .string (cmx L k).snd.fst, cellV ob, .agg #[.int .i64 (cmx L k).fst, .string (cmx L k).snd.fst, .float .f64 (cmx L k).snd.snd], .tuple #[cellV ou, cellV ot], cellV ou, cellV ot, u47, u48, u49, u50, u51, u52, u53, u54, u55, u56, u57, u58, u59, u60, u61, u62, u63, u64, u65, u66, u67, u68, u69, u70, u71, u72, u73, u74, u75, u76, u77, u78, u79, u80, u81, undef], defers := [] } W := by
          intro n12 n13 W hb12 hb13 hne hge12 hge13 hFW
          have H12 := Lib.hid hb12
          have H13 := Lib.hid hb13
          have HFW := Lib.hid hFW
          have HN := Lib.hid hne
          have HG12 := Lib.hid hge12
          have HG13 := Lib.hid hge13
          refine hK1 _ _ ?_
          go_wp2_with fail
          have hVd := HV1.out.fr hFW.drew (fun _ _ h => h)
          have hXd := HX.out.fr hFW.drew (fun h => h)
          have hBd := hb12.drew
          obtain ⟨W6, hrun, hM6, hF6, hs6⟩ := hVd.cells.update (t := 59) (et := 53) Try.underlying59 (a := (cmx L k).2.1) HCG.out.1 ou
          have hrun' : (Instr.mapUpdate 59 (.map (some mc)) (.string (cmx L k).2.1) (.agg #[.bool ou.1, .float .f64 ou.2])).run Try.prog W.drew = .ok () W6 := hrun
          obtain ⟨St, hSt⟩ : ∃ St : World → Prop, St = Fr (fun _ => False) W.drew := ⟨_, rfl⟩
          have HT := Lib.hid (show ∀ w', Fr (fun _ => False) W.drew w' → At St w' from fun w' h => by unfold At; rw [hSt]; exact h)
          have lift : ∀ (q : Addr) (u : Value), W.drew.cell? q = some u → ∀ w', At St w' → w'.cell? q = some u := fun q u hq w' h => by replace h := h.out; rw [hSt] at h; exact h.cell hq (fun h => h)
          have l0 := lift ⟨g, 0, none⟩ _ (hVd.blk.cell 0)
          have l2 := lift ⟨b11, 1, none⟩ _ (hXd.cell 1)
          have l4 := lift ⟨n12, 0, none⟩ _ (hBd.cell 0)
          have l5 := lift ⟨n12, 1, none⟩ _ (hBd.cell 1)
          have hT0 := HT.out _ (Fr.refl _ _)
          clear hSt lift hrun hb12 hb13 hne hge12 hge13 hFW
          refine rt_start [7] (At St) 8 (by kernel_rfl) rfl ?_
          refine rt_free 0 (v := ?_) rfl (by kernel_rfl) (by kernel_rfl) (by kernel_rfl) (by kernel_rfl) (fun _ _ _ h => h) (by rfl) (fun _ => by first | assumption | exact HS0 _ rfl | exact HT.out _ (by repeat (first | exact Fr.refl _ _ | apply Fr.drew | refine Fr.alloc ?_ _))) ?_ ?_
          rotate_left 1
          · intro w; go_simp <;> with_reducible rfl
          try simp only [Act.put, List.setIfInBounds_toArray, List.set_cons_zero, List.set_cons_succ]
          refine rt_free 1 (v := ?_) rfl (by kernel_rfl) (by kernel_rfl) (by kernel_rfl) (by kernel_rfl) (fun _ _ _ h => h) (by rfl) (fun _ => by first | assumption | exact HS0 _ rfl | exact HT.out _ (by repeat (first | exact Fr.refl _ _ | apply Fr.drew | refine Fr.alloc ?_ _))) ?_ ?_
          rotate_left 1
          · intro w; go_simp <;> with_reducible rfl
          try simp only [Act.put, List.setIfInBounds_toArray, List.set_cons_zero, List.set_cons_succ]
          refine rt_free 2 (v := ?_) rfl (by kernel_rfl) (by kernel_rfl) (by kernel_rfl) (by kernel_rfl) (fun _ _ _ h => h) (by rfl) (fun _ => by first | assumption | exact HS0 _ rfl | exact HT.out _ (by repeat (first | exact Fr.refl _ _ | apply Fr.drew | refine Fr.alloc ?_ _))) ?_ ?_
          rotate_left 1
          · intro w; go_simp <;> with_reducible rfl
          try simp only [Act.put, List.setIfInBounds_toArray, List.set_cons_zero, List.set_cons_succ]
          refine rt_take 3 (v := ?_) rfl (by kernel_rfl) (by kernel_rfl) (by kernel_rfl) (by kernel_rfl) (fun _ _ _ h => h) (by rfl) (by first | assumption | exact HS0 _ rfl | exact HT.out _ (by repeat (first | exact Fr.refl _ _ | apply Fr.drew | refine Fr.alloc ?_ _))) ?_ ?_
          rotate_left 1
          · intro w hSw; go_simp <;> with_reducible rfl
          try simp only [Act.put, List.setIfInBounds_toArray, List.set_cons_zero, List.set_cons_succ]
          refine rt_free 4 (v := ?_) rfl (by kernel_rfl) (by kernel_rfl) (by kernel_rfl) (by kernel_rfl) (fun _ _ _ h => h) (by rfl) (fun _ => by first | assumption | exact HS0 _ rfl | exact HT.out _ (by repeat (first | exact Fr.refl _ _ | apply Fr.drew | refine Fr.alloc ?_ _))) ?_ ?_
          rotate_left 1
          · intro w; go_simp <;> with_reducible rfl
          try simp only [Act.put, List.setIfInBounds_toArray, List.set_cons_zero, List.set_cons_succ]
          refine rt_take 5 (v := ?_) rfl (by kernel_rfl) (by kernel_rfl) (by kernel_rfl) (by kernel_rfl) (fun _ _ _ h => h) (by rfl) (by first | assumption | exact HS0 _ rfl | exact HT.out _ (by repeat (first | exact Fr.refl _ _ | apply Fr.drew | refine Fr.alloc ?_ _))) ?_ ?_
          rotate_left 1
          · intro w hSw; go_simp <;> with_reducible rfl
          try simp only [Act.put, List.setIfInBounds_toArray, List.set_cons_zero, List.set_cons_succ]
          refine rt_take 6 (v := ?_) rfl (by kernel_rfl) (by kernel_rfl) (by kernel_rfl) (by kernel_rfl) (fun _ _ _ h => h) (by rfl) (by first | assumption | exact HS0 _ rfl | exact HT.out _ (by repeat (first | exact Fr.refl _ _ | apply Fr.drew | refine Fr.alloc ?_ _))) ?_ ?_
          rotate_left 1
          · intro w hSw; go_simp <;> with_reducible rfl
          try simp only [Act.put, List.setIfInBounds_toArray, List.set_cons_zero, List.set_cons_succ]
          refine rt_one 7 rfl (by kernel_rfl) (fun K hK => ?_)
          go_simp
          refine hK.out (At St) _ _ (fun _ h => h) (late_abs (by kernel_rfl)) ?_
          clear hK K
          try simp only [Act.put, List.setIfInBounds_toArray, List.set_cons_zero, List.set_cons_succ]
          refine rt_done (by kernel_rfl) ?_
          have em11 : b11 ≠ mc := hVd.cells.ne_blk hXd
          have em12 : n12 ≠ mc := hVd.cells.ne_blk hBd
          have em13 : n13 ≠ mc := hVd.cells.ne_blk H13.out.drew
          have hb4d := (HBr.out.fr HF1.out (fun h => h)).fr HFW.out.drew (fun h => h)
          have em4 : b4 ≠ mc := hVd.cells.ne_blk hb4d
          have emg : g ≠ mc := hVd.cells.ne_blk hVd.blk
          have hX6 := hXd.fr hF6 em11
          have h136 := H13.out.drew.fr hF6 em13
          have h46 := hb4d.fr hF6 em4
          have hg6 := hVd.blk.fr hF6 emg
          have hl6 := hVd.logs.fr hF6 (fun e => hVd.ne e.symm)
          have hR6 := Kd.R_step (Kd.R_below (Kd.R_below HR9.out (HF1.out.below (fun _ _ h => h))) (HFW.out.drew.below (fun _ _ h => h))) (fun b hb hl => hF6.block b hl (fun e => hb (e ▸ hVd.own.2.1)))
          have hlog6 : LogsAt W6 S' Lh' (logOf (H ++ tagN id L k)) := ⟨fun k h hk => by
              have h0 := hVd.log.row k h hk
              refine Kd.R_mono (Kd.R_step (wr_own h0) (fun b hb hl => hF6.block b hl (fun e => ?_))) (fun b hb => h0.1 b hb)
              obtain ⟨cs, hcs⟩ := Kd.R_typed h0 b hb
              obtain ⟨es, ck, hes⟩ := hVd.cells.at_
              rw [e, hes] at hcs
              injection hcs with hcs
              (cases hcs), hVd.log.none_, hVd.log.apart⟩
          have hF06 : Fr S w W6 := ((HG.out.trans' HF1.out (fun _ _ h => h.elim)).trans' HFW.out.drew (fun _ _ h => h.elim)).trans' hF6 (fun i hi e => by
            subst e
            exact (HS'.out i hVd.own.2.1).elim (fun h => h) (fun h => absurd hi (by omega)))
          have hS6 : ∀ b, S' b → b < W6.heap.size := fun b hb => Nat.lt_of_lt_of_le (hVd.lt b hb) hF6.size
          have hc6 := cellOf_put (H := H ++ tagN id L k) (e := (id, (k : Int), cmx L k)) hVd.cell (u := ou) (by rw [HOU.out, HOB.out])
          have x0 := hX6.cell 0
          have x1 := hX6.cell 1
          have x2 := hX6.cell 2
          simp only [List.getElem?_toArray, List.getElem?_cons_zero, List.getElem?_cons_succ] at x0 x1 x2
          have HX6 := Lib.hid hX6
          have H136 := Lib.hid h136
          have H46 := Lib.hid h46
          have HG6 := Lib.hid hg6
          have HL6 := Lib.hid hl6
          have HR6 := Lib.hid hR6
          have HLOG6 := Lib.hid hlog6
          have HF06 := Lib.hid hF06
          have HS6 := Lib.hid hS6
          have HC6 := Lib.hid hc6
          have HM6 := Lib.hid hM6
          have HOWN := Lib.hid hVd.own
          have HNE := Lib.hid hVd.ne
          clear l0 l2 l4 l5 hT0 hrun' hVd hXd hBd hF6 hs6 em11 em12 em13 em4 emg hb4d hX6 h136 h46 hg6 hl6 hR6 hlog6 hF06 hS6 hc6 hM6
          go_wp2_with fail
          refine (cmd_writes (cmx L k).1 (cmx L k).2.1 (cmx L k).2.2 _ HCG.out.1 HCG.out.2).mono ?_
          rintro r W7 ⟨rfl, hF7⟩
          clear x0 x1 x2
          by_cases hwr : cmdOk (cmx L k) ∧ (cmx L k).1 ≠ 1
          · rw [cdec_true (show cmdOk ((cmx L k).1, (cmx L k).2.1, (cmx L k).2.2) ∧ (cmx L k).1 ≠ 1 from hwr)]
            have HWR := Lib.hid hwr
            clear hwr
            go_wp2_with fail
            obtain ⟨Wd, hWd⟩ : ∃ W, W = W7.drew := ⟨_, rfl⟩
            have hFd : Fr (fun _ => False) W6 Wd := by rw [hWd]; exact hF7.drew
            have hg7 := HG6.out.fr hFd (fun h => h)
            have h117 := HX6.out.fr hFd (fun h => h)
            have h47 := H46.out.fr hFd (fun h => h)
            have h137 := H136.out.fr hFd (fun h => h)
            have hl7 := HL6.out.fr hFd (fun h => h)
            have hm7 := HM6.out.fr hFd (fun h => h)
            have hlog7 := HLOG6.out.fr hFd (fun _ _ h => h)
            have hR7 := Kd.R_below HR6.out (hFd.below (fun _ _ h => h))
            have hS7 : ∀ b, S' b → b < Wd.heap.size := fun b hb => Nat.lt_of_lt_of_le (HS6.out b hb) hFd.size
            have hF07 : Fr S w Wd := HF06.out.trans' hFd (fun _ _ h => h.elim)
            obtain ⟨v0, hv0⟩ : ∃ v, v = (Lh' (cmx L k).2.1).elim (.slice none 0 0) hdrV := ⟨_, rfl⟩
            have hR0 : wrK.R 67 Wd 0 S' v0 (logOf (H ++ tagN id L k) (cmx L k).2.1) := by
              rw [hv0]
              cases hq : Lh' (cmx L k).2.1 with
              | none => rw [hlog7.none_ _ hq]; exact Kd.R_nil _ _ _ _ _
              | some h0 => exact hlog7.row _ _ hq
            have hlk : ∀ w', Fr (fun b => some b = v0.ownBlock) Wd w' → (Instr.lookup 60 (.map (some ml)) (.string (cmx L k).2.1) false).run Try.prog w' = .ok v0 w' := fun w' h => by
              have hml : ¬ some ml = v0.ownBlock := fun e => by
                obtain ⟨cs, hcs⟩ := Kd.R_typed hR0 ml e.symm
                obtain ⟨es, ck, hes⟩ := hl7.at_
                rw [hes] at hcs
                injection hcs with hcs
                cases hcs
              have := (hl7.fr h hml).lookup (t := 60) (et := 57) Try.underlying60 (z := .slice none 0 0) (zero_wrs w') (a := (cmx L k).2.1) HCG.out.1
              rw [hv0]
              exact this
            have hml0 : ¬ some ml = v0.ownBlock := fun e => by
              obtain ⟨cs, hcs⟩ := Kd.R_typed hR0 ml e.symm
              obtain ⟨es, ck, hes⟩ := hl7.at_
              rw [hes] at hcs
              injection hcs with hcs
              cases hcs
            have hmc0 : ¬ some mc = v0.ownBlock := fun e => by
              obtain ⟨cs, hcs⟩ := Kd.R_typed hR0 mc e.symm
              obtain ⟨es, ck, hes⟩ := hm7.at_
              rw [hes] at hcs
              injection hcs with hcs
              cases hcs
            have HML0 := Lib.hid hml0
            have HMC0 := Lib.hid hmc0
            clear hml0 hmc0
            have HV0 := Lib.hid hv0
            obtain ⟨St, hSt⟩ : ∃ St : World → Prop, St = Fr (fun b => some b = v0.ownBlock) Wd := ⟨_, rfl⟩
            have HT := Lib.hid (show ∀ w', Fr (fun b => some b = v0.ownBlock) Wd w' → At St w' from fun w' h => by unfold At; rw [hSt]; exact h)
            have lift : ∀ (q : Addr) (u : Value), some q.block ≠ v0.ownBlock → Wd.cell? q = some u → ∀ w', At St w' → w'.cell? q = some u := fun q u hb hq w' h => by replace h := h.out; rw [hSt] at h; exact h.cell hq hb
            have l0 := lift ⟨g, 1, none⟩ _ (Kd.R_ne hR0 hg7 (by decide)) (hg7.cell 1)
            have l1 := lift ⟨b11, 1, none⟩ _ (Kd.R_ne hR0 h117 (by decide)) (h117.cell 1)
            have l2 := lift ⟨b4, 0, none⟩ _ (Kd.R_ne hR0 h47 (by decide)) (h47.cell 0)
            have l3 := lift ⟨b4, 1, none⟩ _ (Kd.R_ne hR0 h47 (by decide)) (h47.cell 1)
            have lk2 : ∀ w', At St w' → (Instr.lookup 60 (.map (some ml)) (.string (cmx L k).2.1) false).run Try.prog w' = .ok v0 w' := fun w' h => by replace h := h.out; rw [hSt] at h; exact hlk w' h
            have hT0 := HT.out Wd (Fr.refl _ _)
            have HWD := Lib.hid hWd
            have HR0 := Lib.hid hR0
            have HFD := Lib.hid hFd
            have HR7 := Lib.hid hR7
            have HLOG7 := Lib.hid hlog7
            have HL7 := Lib.hid hl7
            have HM7 := Lib.hid hm7
            have HG7 := Lib.hid hg7
            have H47 := Lib.hid h47
            have H137 := Lib.hid h137
            have HS7 := Lib.hid hS7
            have HF07 := Lib.hid hF07
            clear hSt lift hWd hFd hg7 h117 h47 h137 hl7 hm7 hlog7 hR7 hS7 hF07 hv0 hR0 hlk hF7
            refine rt_start [18] (At St) 19 (by kernel_rfl) rfl ?_
            rw [← HWD.out]
            refine rt_free 0 (v := ?_) rfl (by kernel_rfl) (by kernel_rfl) (by kernel_rfl) (by kernel_rfl) (fun _ _ _ h => h) (by rfl) (fun _ => by first | assumption | exact HS0 _ rfl | exact HT.out _ (by repeat (first | exact Fr.refl _ _ | apply Fr.drew | refine Fr.alloc ?_ _))) ?_ ?_
            rotate_left 1
            · intro w; go_simp <;> with_reducible rfl
            try simp only [Act.put, List.setIfInBounds_toArray, List.set_cons_zero, List.set_cons_succ]
            refine rt_free 1 (v := ?_) rfl (by kernel_rfl) (by kernel_rfl) (by kernel_rfl) (by kernel_rfl) (fun _ _ _ h => h) (by rfl) (fun _ => by first | assumption | exact HS0 _ rfl | exact HT.out _ (by repeat (first | exact Fr.refl _ _ | apply Fr.drew | refine Fr.alloc ?_ _))) ?_ ?_
            rotate_left 1
            · intro w; go_simp <;> with_reducible rfl
            try simp only [Act.put, List.setIfInBounds_toArray, List.set_cons_zero, List.set_cons_succ]
            refine rt_free 2 (v := ?_) rfl (by kernel_rfl) (by kernel_rfl) (by kernel_rfl) (by kernel_rfl) (fun _ _ _ h => h) (by rfl) (fun _ => by first | assumption | exact HS0 _ rfl | exact HT.out _ (by repeat (first | exact Fr.refl _ _ | apply Fr.drew | refine Fr.alloc ?_ _))) ?_ ?_
            rotate_left 1
            · intro w; go_simp <;> with_reducible rfl
            try simp only [Act.put, List.setIfInBounds_toArray, List.set_cons_zero, List.set_cons_succ]
            refine rt_take 3 (v := ?_) rfl (by kernel_rfl) (by kernel_rfl) (by kernel_rfl) (by kernel_rfl) (fun _ _ _ h => h) (by rfl) (by first | assumption | exact HS0 _ rfl | exact HT.out _ (by repeat (first | exact Fr.refl _ _ | apply Fr.drew | refine Fr.alloc ?_ _))) ?_ ?_
            rotate_left 1
            · intro w hSw; go_simp <;> with_reducible rfl
            try simp only [Act.put, List.setIfInBounds_toArray, List.set_cons_zero, List.set_cons_succ]
            refine rt_free 4 (v := ?_) rfl (by kernel_rfl) (by kernel_rfl) (by kernel_rfl) (by kernel_rfl) (fun _ _ _ h => h) (by rfl) (fun _ => by first | assumption | exact HS0 _ rfl | exact HT.out _ (by repeat (first | exact Fr.refl _ _ | apply Fr.drew | refine Fr.alloc ?_ _))) ?_ ?_
            rotate_left 1
            · intro w; go_simp <;> with_reducible rfl
            try simp only [Act.put, List.setIfInBounds_toArray, List.set_cons_zero, List.set_cons_succ]
            refine rt_take 5 (v := ?_) rfl (by kernel_rfl) (by kernel_rfl) (by kernel_rfl) (by kernel_rfl) (fun _ _ _ h => h) (by rfl) (by first | assumption | exact HS0 _ rfl | exact HT.out _ (by repeat (first | exact Fr.refl _ _ | apply Fr.drew | refine Fr.alloc ?_ _))) ?_ ?_
            rotate_left 1
            · intro w hSw; go_simp <;> with_reducible rfl
            try simp only [Act.put, List.setIfInBounds_toArray, List.set_cons_zero, List.set_cons_succ]
            refine rt_free 6 (v := ?_) rfl (by kernel_rfl) (by kernel_rfl) (by kernel_rfl) (by kernel_rfl) (fun _ _ _ h => h) (by rfl) (fun _ => by first | assumption | exact HS0 _ rfl | exact HT.out _ (by repeat (first | exact Fr.refl _ _ | apply Fr.drew | refine Fr.alloc ?_ _))) ?_ ?_
            rotate_left 1
            · intro w; go_simp <;> with_reducible rfl
            try simp only [Act.put, List.setIfInBounds_toArray, List.set_cons_zero, List.set_cons_succ]
            refine rt_free 7 (v := ?_) rfl (by kernel_rfl) (by kernel_rfl) (by kernel_rfl) (by kernel_rfl) (fun _ _ _ h => h) (by rfl) (fun _ => by first | assumption | exact HS0 _ rfl | exact HT.out _ (by repeat (first | exact Fr.refl _ _ | apply Fr.drew | refine Fr.alloc ?_ _))) ?_ ?_
            rotate_left 1
            · intro w; go_simp <;> with_reducible rfl
            try simp only [Act.put, List.setIfInBounds_toArray, List.set_cons_zero, List.set_cons_succ]
            refine rt_free 8 (v := ?_) rfl (by kernel_rfl) (by kernel_rfl) (by kernel_rfl) (by kernel_rfl) (fun _ _ _ h => h) (by rfl) (fun _ => by first | assumption | exact HS0 _ rfl | exact HT.out _ (by repeat (first | exact Fr.refl _ _ | apply Fr.drew | refine Fr.alloc ?_ _))) ?_ ?_
            rotate_left 1
            · intro w; go_simp <;> with_reducible rfl
            try simp only [Act.put, List.setIfInBounds_toArray, List.set_cons_zero, List.set_cons_succ]
            refine rt_take 9 (v := ?_) rfl (by kernel_rfl) (by kernel_rfl) (by kernel_rfl) (by kernel_rfl) (fun _ _ _ h => h) (by rfl) (by first | assumption | exact HS0 _ rfl | exact HT.out _ (by repeat (first | exact Fr.refl _ _ | apply Fr.drew | refine Fr.alloc ?_ _))) ?_ ?_
            rotate_left 1
            · intro w hSw; go_simp <;> with_reducible rfl
            try simp only [Act.put, List.setIfInBounds_toArray, List.set_cons_zero, List.set_cons_succ]
            refine rt_free 10 (v := ?_) rfl (by kernel_rfl) (by kernel_rfl) (by kernel_rfl) (by kernel_rfl) (fun _ _ _ h => h) (by rfl) (fun _ => by first | assumption | exact HS0 _ rfl | exact HT.out _ (by repeat (first | exact Fr.refl _ _ | apply Fr.drew | refine Fr.alloc ?_ _))) ?_ ?_
            rotate_left 1
            · intro w; go_simp <;> with_reducible rfl
            try simp only [Act.put, List.setIfInBounds_toArray, List.set_cons_zero, List.set_cons_succ]
            refine rt_take 11 (v := ?_) rfl (by kernel_rfl) (by kernel_rfl) (by kernel_rfl) (by kernel_rfl) (fun _ _ _ h => h) (by rfl) (by first | assumption | exact HS0 _ rfl | exact HT.out _ (by repeat (first | exact Fr.refl _ _ | apply Fr.drew | refine Fr.alloc ?_ _))) ?_ ?_
            rotate_left 1
            · intro w hSw; go_simp <;> with_reducible rfl
            try simp only [Act.put, List.setIfInBounds_toArray, List.set_cons_zero, List.set_cons_succ]
            refine rt_take 12 (v := ?_) rfl (by kernel_rfl) (by kernel_rfl) (by kernel_rfl) (by kernel_rfl) (fun _ _ _ h => h) (by rfl) (by first | assumption | exact HS0 _ rfl | exact HT.out _ (by repeat (first | exact Fr.refl _ _ | apply Fr.drew | refine Fr.alloc ?_ _))) ?_ ?_
            rotate_left 1
            · intro w hSw; go_simp <;> with_reducible rfl
            try simp only [Act.put, List.setIfInBounds_toArray, List.set_cons_zero, List.set_cons_succ]
            refine rt_take 13 (v := ?_) rfl (by kernel_rfl) (by kernel_rfl) (by kernel_rfl) (by kernel_rfl) (fun _ _ _ h => h) (by rfl) (by first | assumption | exact HS0 _ rfl | exact HT.out _ (by repeat (first | exact Fr.refl _ _ | apply Fr.drew | refine Fr.alloc ?_ _))) ?_ ?_
            rotate_left 1
            · intro w hSw; go_simp <;> with_reducible rfl
            try simp only [Act.put, List.setIfInBounds_toArray, List.set_cons_zero, List.set_cons_succ]
            refine rt_free 14 (v := ?_) rfl (by kernel_rfl) (by kernel_rfl) (by kernel_rfl) (by kernel_rfl) (fun _ _ _ h => h) (by rfl) (fun _ => by first | assumption | exact HS0 _ rfl | exact HT.out _ (by repeat (first | exact Fr.refl _ _ | apply Fr.drew | refine Fr.alloc ?_ _))) ?_ ?_
            rotate_left 1
            · intro w; go_simp <;> with_reducible rfl
            try simp only [Act.put, List.setIfInBounds_toArray, List.set_cons_zero, List.set_cons_succ]
            refine rt_free 15 (v := ?_) rfl (by kernel_rfl) (by kernel_rfl) (by kernel_rfl) (by kernel_rfl) (fun _ _ _ h => h) (by rfl) (fun _ => by first | assumption | exact HS0 _ rfl | exact HT.out _ (by repeat (first | exact Fr.refl _ _ | apply Fr.drew | refine Fr.alloc ?_ _))) ?_ ?_
            rotate_left 1
            · intro w; go_simp <;> with_reducible rfl
            try simp only [Act.put, List.setIfInBounds_toArray, List.set_cons_zero, List.set_cons_succ]
            refine rt_one 16 rfl (by kernel_rfl) (fun K hK => ?_)
            go_simp
            refine hK.out (At St) _ _ (fun _ h => h) (fun _ => by (exact HT.out _ ((Fr.refl _ _).alloc _))) ?_
            clear hK K
            try simp only [Act.put, List.setIfInBounds_toArray, List.set_cons_zero, List.set_cons_succ]
            refine rt_one 17 rfl (by kernel_rfl) (fun K hK => ?_)
            refine Kd.R_append_step wrK 0 rfl (.tmp 68) (.tmp 72) 57 67 _ 24 rfl Try.underlying57 info_wr rfl (by decide) (by decide) v0 (logOf (H ++ tagN id L k) (cmx L k).2.1) (id, (k : Int)) (wrCells (id, (k : Int))) (fun b => S' b ∨ Wd.heap.size ≤ b) (fun _ => False) (by rfl) (by rfl) (wrK_M _ _ _ _) (fun _ h => h.elim) (fun b hb => .inr hb) (Kd.R_mono HR0.out (fun _ h => .inl h)) (Below.refl _ _) (Nat.zero_le _) (by have h1 := logOf_len (H ++ tagN id L k) (cmx L k).2.1; rw [List.length_append, tagN_len] at h1; have h2 := HL8.out; have h3 := HLn.out; omega) ?_
            intro v1 w8 hR1 hB1 hg1 hat1
            obtain ⟨A1, c1, rfl⟩ := Kd.R_slice hR1
            rw [show (logOf (H ++ tagN id L k) (cmx L k).2.1 ++ [(id, (k : Int))]).length = (logOf (H ++ tagN id L k) (cmx L k).2.1).length + 1 from by simp] at hR1 hat1 ⊢
            have hml : ml ≠ mc := fun e => HNE.out e.symm
            have hml0 := HML0.out
            have hmc0 := HMC0.out
            have hg8 := HG7.out.fr (Fr.of_grown hg1) (Kd.R_ne HR0.out HG7.out (by decide))
            have h48 := H47.out.fr (Fr.of_grown hg1) (Kd.R_ne HR0.out H47.out (by decide))
            have h138 := H137.out.fr (Fr.of_grown hg1) (Kd.R_ne HR0.out H137.out (by decide))
            have hm8 := HM7.out.fr (Fr.of_grown hg1) hmc0
            have hl8' := HL7.out.fr (Fr.of_grown hg1) hml0
            have hown8 : ∀ b, some b = v0.ownBlock → S' b := fun b hb => HR0.out.1 b hb.symm
            have hR8 := Kd.R_step HR7.out (w1 := w8) (fun b hb hl => hg1.block b hl (fun e => hb (hown8 b e)))
            have hlog8 := HLOG7.out.append HV0.out (e := (id, (k : Int))) (top := Wd.heap.size) (h1 := (A1, (logOf (H ++ tagN id L k) (cmx L k).2.1).length + 1, c1)) hR1 hg1 hat1
            have hFr8 := Fr.of_grown hg1
            have hT8 := HT.out _ hFr8
            obtain ⟨W9, hrun9, hM9, hF9, hs9⟩ := hl8'.update (t := 60) (et := 57) Try.underlying60 (a := (cmx L k).2.1) HCG.out.1 ((A1, (logOf (H ++ tagN id L k) (cmx L k).2.1).length + 1, c1) : Hdr)
            have hrun9' : (Instr.mapUpdate 60 (.map (some ml)) (.string (cmx L k).2.1) (.slice A1 ((logOf (H ++ tagN id L k) (cmx L k).2.1).length + 1) c1)).run Try.prog w8 = .ok () W9 := hrun9
            clear hrun9
            refine hK.out (At St) _ _ (fun _ h => h) (fun _ => by (assumption)) ?_
            clear hK K
            try simp only [Act.put, List.setIfInBounds_toArray, List.set_cons_zero, List.set_cons_succ]
            refine rt_one 18 rfl (by kernel_rfl) (fun K hK => ?_)
            go_simp
            refine hK.out (At St) _ _ (fun _ h => h) (late_abs (by kernel_rfl)) ?_
            clear hK K
            try simp only [Act.put, List.setIfInBounds_toArray, List.set_cons_zero, List.set_cons_succ]
            refine rt_done (by kernel_rfl) ?_
            clear l0 l1 l2 l3 lk2 hT0 hT8 hrun9'
            have e4 : b4 ≠ ml := hl8'.ne_blk h48
            have e13 : n13 ≠ ml := hl8'.ne_blk h138
            have eg : g ≠ ml := hl8'.ne_blk hg8
            have h4n := h48.fr hF9 e4
            have h13n := h138.fr hF9 e13
            have hSm : ∀ b, (S' b ∨ (Wd.heap.size ≤ b ∧ b < w8.heap.size)) → b < W9.heap.size := fun b hb => by
              have h1 := hF9.size
              have h2 := hFr8.size
              rcases hb with hb | hb
              · have := HS7.out b hb; omega
              · omega
            have hb4lt : b4 < Wd.heap.size := H47.out.lt
            have hwlt : w.heap.size ≤ Wd.heap.size := HF07.out.size
            have hSn : ∀ b, (S' b ∨ (Wd.heap.size ≤ b ∧ b < w8.heap.size)) → S b ∨ (w.heap.size ≤ b ∧ b ≠ b4) := fun b hb => by
              rcases hb with hb | hb
              · exact HS'.out b hb
              · exact .inr ⟨by omega, by omega⟩
            have hRn : resK.R 55 W9 w.heap.size (fun b => ¬ (S' b ∨ (Wd.heap.size ≤ b ∧ b < w8.heap.size))) (.slice A9 k c9) (toldN H id L k) := by
              refine Kd.R_mono (Kd.R_step (Kd.R_bound (Kd.R_mono (Kd.R_bound HR7.out) (ok' := fun b => ¬ S' b ∧ b < Wd.heap.size) (fun b hb => ⟨hb.1, hb.2.2.1⟩) |> fun h => Kd.R_step h (w1 := w8) (fun b hb hl => hg1.block b hl (fun e => hb.1 (hown8 b e))))) (fun b hb hl => hF9.block b hl (fun e => hb.1.1 (e ▸ HOWN.out.2.2)))) (fun b hb => ?_)
              rintro (h | h)
              · exact hb.1.1 h
              · have := hb.1.2; omega
            have hFn : Fr S w W9 := (HF07.out.trans' hFr8 (fun i hi e => (HS'.out i (hown8 i e)).elim (fun h => h) (fun h => absurd hi (by omega)))).trans' hF9 (fun i hi e => by
              subst e
              exact (HS'.out i HOWN.out.2.2).elim (fun h => h) (fun h => absurd hi (by omega)))
            have hcl := HC6.out
            rw [List.append_assoc, ← tagN_succ] at hcl
            have hput := logOf_put (H := H ++ tagN id L k) (e := (id, (k : Int), cmx L k)) HWR.out
            rw [List.append_assoc, ← tagN_succ] at hput
            have hlg9 : LogsAt W9 (fun b => S' b ∨ (Wd.heap.size ≤ b ∧ b < w8.heap.size)) (fun x => if x = (cmx L k).2.1 then some (A1, (logOf (H ++ tagN id L k) (cmx L k).2.1).length + 1, c1) else Lh' x) (logOf (H ++ tagN id L (k + 1))) := by
              rw [hput]
              refine ⟨fun x h0 hx => ?_, hlog8.none_, hlog8.apart⟩
              have h1 := hlog8.row x h0 hx
              refine Kd.R_mono (Kd.R_step (wr_own h1) (fun b hb hl => hF9.block b hl (fun e => ?_))) (fun b hb => h1.1 b hb)
              obtain ⟨cs, hcs⟩ := Kd.R_typed h1 b hb
              obtain ⟨es, ck, hes⟩ := hl8'.at_
              rw [e, hes] at hcs
              injection hcs with hcs
              cases hcs
            have hVn : VaultAt W9 (fun b => S' b ∨ (Wd.heap.size ≤ b ∧ b < w8.heap.size)) g mc ml _ (fun x => if x = (cmx L k).2.1 then some (A1, (logOf (H ++ tagN id L k) (cmx L k).2.1).length + 1, c1) else Lh' x) (H ++ tagN id L (k + 1)) (m + 1) := ⟨hg8.fr hF9 eg, ⟨.inl HOWN.out.1, .inl HOWN.out.2.1, .inl HOWN.out.2.2⟩, HNE.out, hm8.fr hF9 (fun e => HNE.out e), hcl, hM9, hlg9, hSm⟩
            clear hg8 h48 h138 hm8 hl8' hown8 hR8 hlog8 hFr8 hM9 hF9 hs9 e4 e13 eg hSm hcl hput hlg9 hR1 hB1 hg1 hat1 hml hml0 hmc0
            have HVN := Lib.hid hVn
            have HSN := Lib.hid hSn
            have HFN := Lib.hid hFn
            have HRN := Lib.hid hRn
            have H4N := Lib.hid h4n
            have x0 := h4n.cell 0
            have x1 := h4n.cell 1
            have y0 := h13n.cell 0
            have y1 := h13n.cell 1
            simp only [List.getElem?_toArray, List.getElem?_cons_zero, List.getElem?_cons_succ] at x0 x1 y0 y1
            have k8 : k < 8 := by have h1 := HL8.out; have h2 := HLn.out; omega
            clear hVn hSn hFn hRn h4n h13n
            go_wp2_with (at_builtin; refine Kd.R_append resK w.heap.size rfl (.tmp 74) (.tmp 79) 31 55 _ 40 rfl Try.underlying31 info_res rfl (by decide) (by decide) (.slice A9 k c9) (toldN H id L k) (id, (k : Int), ot) (resCells (id, (k : Int), ot)) (fun b => ¬ (S' b ∨ (Wd.heap.size ≤ b ∧ b < w8.heap.size))) (fun _ => False) (by rfl) (by rfl) (resK_M _ _ _ _) (fun _ h => h.elim) (fun b hb h => absurd (HVN.out.lt b h) (by omega)) HRN.out (Below.refl _ _) HFN.out.size (by rw [toldN_len]; omega) ?_; intro v1 w3 hR1 hB1 hg1 hat1; have HR1 := Lib.hid hR1; have HGR := Lib.hid hg1; clear hR1 hB1 hg1 hat1)
            go_roundw
            case rel =>
              refine ⟨k + 1, (fun b => S' b ∨ (Wd.heap.size ≤ b ∧ b < w8.heap.size)), _, _, by omega, by go_num, HVN.out.fr (Fr.of_grown HGR.out) (fun b hb h => HRN.out.1 b h.symm hb), HSN.out, HFN.out.trans' (Fr.of_grown HGR.out) (fun i hi h => by have := Kd.R_base HRN.out i h.symm; omega), ?_, H4N.out.fr (Fr.of_grown HGR.out) (Kd.R_ne HRN.out H4N.out (by decide))⟩
              rw [toldN_succ, ← HOB.out, ← HOT.out]
              exact HR1.out
            case measure => simp [intOf]; omega
          · rw [cdec_false (show ¬ (cmdOk ((cmx L k).1, (cmx L k).2.1, (cmx L k).2.2) ∧ (cmx L k).1 ≠ 1) from hwr)]
            have h4n := H46.out.fr hF7 (fun h => h)
            have h13n := H136.out.fr hF7 (fun h => h)
            have hRn := Kd.R_below HR6.out (hF7.below (fun _ _ h => h))
            have hFn : Fr S w W7 := HF06.out.trans' hF7 (fun _ _ h => h.elim)
            have hSn := HS'.out
            have hlg := HLOG6.out.fr hF7 (fun _ _ h => h)
            rw [← logOf_same (H := H ++ tagN id L k) (e := (id, (k : Int), cmx L k)) hwr, List.append_assoc, ← tagN_succ] at hlg
            have hcl := HC6.out
            rw [List.append_assoc, ← tagN_succ] at hcl
            have hVn : VaultAt W7 S' g mc ml _ Lh' (H ++ tagN id L (k + 1)) (m + 1) := ⟨HG6.out.fr hF7 (fun h => h), HOWN.out, HNE.out, HM6.out.fr hF7 (fun h => h), hcl, HL6.out.fr hF7 (fun h => h), hlg, fun b hb => Nat.lt_of_lt_of_le (HS6.out b hb) hF7.size⟩
            clear hF7 hlg hcl hwr
            have HVN := Lib.hid hVn
            have HSN := Lib.hid hSn
            have HFN := Lib.hid hFn
            have HRN := Lib.hid hRn
            have H4N := Lib.hid h4n
            have x0 := h4n.cell 0
            have x1 := h4n.cell 1
            have y0 := h13n.cell 0
            have y1 := h13n.cell 1
            simp only [List.getElem?_toArray, List.getElem?_cons_zero, List.getElem?_cons_succ] at x0 x1 y0 y1
            have k8 : k < 8 := by have h1 := HL8.out; have h2 := HLn.out; omega
            clear hVn hSn hFn hRn h4n h13n
            go_wp2_with (at_builtin; refine Kd.R_append resK w.heap.size rfl (.tmp 74) (.tmp 79) 31 55 _ 40 rfl Try.underlying31 info_res rfl (by decide) (by decide) (.slice A9 k c9) (toldN H id L k) (id, (k : Int), ot) (resCells (id, (k : Int), ot)) (fun b => ¬ S' b) (fun _ => False) (by rfl) (by rfl) (resK_M _ _ _ _) (fun _ h => h.elim) (fun b hb h => absurd (HVN.out.lt b h) (by omega)) HRN.out (Below.refl _ _) HFN.out.size (by rw [toldN_len]; omega) ?_; intro v1 w3 hR1 hB1 hg1 hat1; have HR1 := Lib.hid hR1; have HGR := Lib.hid hg1; clear hR1 hB1 hg1 hat1)
            go_roundw
            case rel =>
              refine ⟨k + 1, S', _, _, by omega, by go_num, HVN.out.fr (Fr.of_grown HGR.out) (fun b hb h => HRN.out.1 b h.symm hb), HSN.out, HFN.out.trans' (Fr.of_grown HGR.out) (fun i hi h => by have := Kd.R_base HRN.out i h.symm; omega), ?_, H4N.out.fr (Fr.of_grown HGR.out) (Kd.R_ne HRN.out H4N.out (by decide))⟩
              rw [toldN_succ, ← HOB.out, ← HOT.out]
              exact HR1.out
            case measure => simp [intOf]; omega
        obtain ⟨St, hSt⟩ : ∃ St : World → Prop, St = Fr (fun _ => False) W1 := ⟨_, rfl⟩
        have HT := Lib.hid (show ∀ w', Fr (fun _ => False) W1 w' → At St w' from fun w' h => by unfold At; rw [hSt]; exact h)
        have lift : ∀ (q : Addr) (u : Value), W1.cell? q = some u → ∀ w', At St w' → w'.cell? q = some u := fun q u hq w' h => by replace h := h.out; rw [hSt] at h; exact h.cell hq (fun h => h)
        have l0 := lift ⟨g, 0, none⟩ _ (HV1.out.blk.cell 0)
        have l1 := lift ⟨b11, 0, none⟩ _ (HX.out.cell 0)
        have l2 := lift ⟨b11, 1, none⟩ _ (HX.out.cell 1)
        have l3 := lift ⟨b11, 2, none⟩ _ (HX.out.cell 2)
        have lk : ∀ w', At St w' → (Instr.lookup 59 (.map (some mc)) (.string (cmx L k).2.1) false).run Try.prog w' = .ok (cellV ob) w' := fun w' h => by
          replace h := h.out
          rw [hSt] at h
          have := (HV1.out.cells.fr h (fun h => h)).lookup (t := 59) (et := 53) Try.underlying59 (z := cellV (false, 0)) (zero_cell w') (a := (cmx L k).2.1) HCG.out.1
          rw [HOB.out, ← HV1.out.cell]
          cases hq : F' (cmx L k).2.1 <;> rw [hq] at this <;> exact this
        have hFr := (Fr.refl (fun _ => False) W1).drew
        have hT0 := HT.out _ hFr
        have hn12 : W1.heap.size = W1.heap.size := rfl
        clear hSt lift
        refine rt_start [15] (At St) 16 (by kernel_rfl) rfl ?_
        have hA12 := HX.out.drew
        have hA13 := HX.out.drew
        generalize W1.drew = Wn at hFr hT0 hA12 hA13 ⊢
        refine rt_free 0 (v := ?_) rfl (by kernel_rfl) (by kernel_rfl) (by kernel_rfl) (by kernel_rfl) (fun _ _ _ h => h) (by rfl) (fun _ => by first | assumption | exact HS0 _ rfl | exact HT.out _ (by repeat (first | exact Fr.refl _ _ | apply Fr.drew | refine Fr.alloc ?_ _))) ?_ ?_
        rotate_left 1
        · intro w; go_simp <;> with_reducible rfl
        try simp only [Act.put, List.setIfInBounds_toArray, List.set_cons_zero, List.set_cons_succ]
        refine rt_free 1 (v := ?_) rfl (by kernel_rfl) (by kernel_rfl) (by kernel_rfl) (by kernel_rfl) (fun _ _ _ h => h) (by rfl) (fun _ => by first | assumption | exact HS0 _ rfl | exact HT.out _ (by repeat (first | exact Fr.refl _ _ | apply Fr.drew | refine Fr.alloc ?_ _))) ?_ ?_
        rotate_left 1
        · intro w; go_simp <;> with_reducible rfl
        try simp only [Act.put, List.setIfInBounds_toArray, List.set_cons_zero, List.set_cons_succ]
        refine rt_free 2 (v := ?_) rfl (by kernel_rfl) (by kernel_rfl) (by kernel_rfl) (by kernel_rfl) (fun _ _ _ h => h) (by rfl) (fun _ => by first | assumption | exact HS0 _ rfl | exact HT.out _ (by repeat (first | exact Fr.refl _ _ | apply Fr.drew | refine Fr.alloc ?_ _))) ?_ ?_
        rotate_left 1
        · intro w; go_simp <;> with_reducible rfl
        try simp only [Act.put, List.setIfInBounds_toArray, List.set_cons_zero, List.set_cons_succ]
        refine rt_take 3 (v := ?_) rfl (by kernel_rfl) (by kernel_rfl) (by kernel_rfl) (by kernel_rfl) (fun _ _ _ h => h) (by rfl) (by first | assumption | exact HS0 _ rfl | exact HT.out _ (by repeat (first | exact Fr.refl _ _ | apply Fr.drew | refine Fr.alloc ?_ _))) ?_ ?_
        rotate_left 1
        · intro w hSw; go_simp <;> with_reducible rfl
        try simp only [Act.put, List.setIfInBounds_toArray, List.set_cons_zero, List.set_cons_succ]
        refine rt_free 4 (v := ?_) rfl (by kernel_rfl) (by kernel_rfl) (by kernel_rfl) (by kernel_rfl) (fun _ _ _ h => h) (by rfl) (fun _ => by first | assumption | exact HS0 _ rfl | exact HT.out _ (by repeat (first | exact Fr.refl _ _ | apply Fr.drew | refine Fr.alloc ?_ _))) ?_ ?_
        rotate_left 1
        · intro w; go_simp <;> with_reducible rfl
        try simp only [Act.put, List.setIfInBounds_toArray, List.set_cons_zero, List.set_cons_succ]
        refine rt_take 5 (v := ?_) rfl (by kernel_rfl) (by kernel_rfl) (by kernel_rfl) (by kernel_rfl) (fun _ _ _ h => h) (by rfl) (by first | assumption | exact HS0 _ rfl | exact HT.out _ (by repeat (first | exact Fr.refl _ _ | apply Fr.drew | refine Fr.alloc ?_ _))) ?_ ?_
        rotate_left 1
        · intro w hSw; go_simp <;> with_reducible rfl
        try simp only [Act.put, List.setIfInBounds_toArray, List.set_cons_zero, List.set_cons_succ]
        refine rt_take 6 (v := ?_) rfl (by kernel_rfl) (by kernel_rfl) (by kernel_rfl) (by kernel_rfl) (fun _ _ _ h => h) (by rfl) (by first | assumption | exact HS0 _ rfl | exact HT.out _ (by repeat (first | exact Fr.refl _ _ | apply Fr.drew | refine Fr.alloc ?_ _))) ?_ ?_
        rotate_left 1
        · intro w hSw; go_simp <;> with_reducible rfl
        try simp only [Act.put, List.setIfInBounds_toArray, List.set_cons_zero, List.set_cons_succ]
        refine rt_take 7 (v := ?_) rfl (by kernel_rfl) (by kernel_rfl) (by kernel_rfl) (by kernel_rfl) (fun _ _ _ h => h) (by rfl) (by first | assumption | exact HS0 _ rfl | exact HT.out _ (by repeat (first | exact Fr.refl _ _ | apply Fr.drew | refine Fr.alloc ?_ _))) ?_ ?_
        rotate_left 1
        · intro w hSw; go_simp <;> with_reducible rfl
        try simp only [Act.put, List.setIfInBounds_toArray, List.set_cons_zero, List.set_cons_succ]
        refine rt_ready [8, 12, 13] (by kernel_rfl) (by simp) ?_
        refine AllNextt.cons rfl (fun K hK => ?_) ?_
        · skip
          go_simp
          refine (cell_do ob (cmx L k) Wn (by rw [HOB.out]; exact HCC.out.1) HCG.out).mono ?_
          rintro r Wm ⟨rfl, hFx⟩
          rw [show absC ob = ob from by rw [HOB.out]; exact HCC.out.2, ← HOU.out, ← HOT.out]
          replace hFr := hFr.trans hFx
          replace hA12 := Blk.fr hA12 hFx (fun h => h)
          replace hA13 := Blk.fr hA13 hFx (fun h => h)
          have hTn := HT.out _ hFr
          clear hFx
          go_wp2_with fail
          generalize Wm = Wn at hFr hTn hA12 hA13 ⊢
          refine hK.out (At St) _ _ (fun _ h => h) (fun _ => by (assumption)) ?_
          clear hK K
          try simp only [Act.put, List.setIfInBounds_toArray, List.set_cons_zero, List.set_cons_succ]
          refine rt_free 9 (v := ?_) rfl (by kernel_rfl) (by kernel_rfl) (by kernel_rfl) (by kernel_rfl) (fun _ _ _ h => h) (by rfl) (fun _ => by first | assumption | exact HS0 _ rfl | exact HT.out _ (by repeat (first | exact Fr.refl _ _ | apply Fr.drew | refine Fr.alloc ?_ _))) ?_ ?_
          rotate_left 1
          · intro w; go_simp <;> with_reducible rfl
          try simp only [Act.put, List.setIfInBounds_toArray, List.set_cons_zero, List.set_cons_succ]
          refine rt_free 10 (v := ?_) rfl (by kernel_rfl) (by kernel_rfl) (by kernel_rfl) (by kernel_rfl) (fun _ _ _ h => h) (by rfl) (fun _ => by first | assumption | exact HS0 _ rfl | exact HT.out _ (by repeat (first | exact Fr.refl _ _ | apply Fr.drew | refine Fr.alloc ?_ _))) ?_ ?_
          rotate_left 1
          · intro w; go_simp <;> with_reducible rfl
          try simp only [Act.put, List.setIfInBounds_toArray, List.set_cons_zero, List.set_cons_succ]
          refine rt_free 11 (v := ?_) rfl (by kernel_rfl) (by kernel_rfl) (by kernel_rfl) (by kernel_rfl) (fun _ _ _ h => h) (by rfl) (fun _ => by first | assumption | exact HS0 _ rfl | exact HT.out _ (by repeat (first | exact Fr.refl _ _ | apply Fr.drew | refine Fr.alloc ?_ _))) ?_ ?_
          rotate_left 1
          · intro w; go_simp <;> with_reducible rfl
          try simp only [Act.put, List.setIfInBounds_toArray, List.set_cons_zero, List.set_cons_succ]
          refine rt_ready [12, 13] (by kernel_rfl) (by simp) ?_
          refine AllNextt.cons rfl (fun K hK => ?_) ?_
          · skip
            go_simp
            have hlt13 := Blk.lt hA13
            have hge12 := hFr.size
            clear hA12
            have hA12 := Blk.new Wn 53 #[.bool false, .float .f64 0]
            replace hA13 := Blk.alloc hA13 (.cells #[.bool false, .float .f64 0] 53)
            replace hFr := hFr.alloc (.cells #[.bool false, .float .f64 0] 53)
            generalize Wn.heap.size = n12 at hA12 hlt13 hge12 ⊢
            generalize World.alloc _ _ = Wn at hA12 hA13 hFr ⊢
            have hTn := HT.out _ hFr
            refine hK.out (At St) _ _ (fun _ h => h) (fun _ => by (assumption)) ?_
            clear hK K
            try simp only [Act.put, List.setIfInBounds_toArray, List.set_cons_zero, List.set_cons_succ]
            refine rt_one 13 rfl (by kernel_rfl) (fun K hK => ?_)
            go_simp
            have hlt12 := Blk.lt hA12
            have hge13 := hFr.size
            clear hA13
            have hA13 := Blk.new Wn 53 #[.bool false, .float .f64 0]
            replace hA12 := Blk.alloc hA12 (.cells #[.bool false, .float .f64 0] 53)
            replace hFr := hFr.alloc (.cells #[.bool false, .float .f64 0] 53)
            generalize Wn.heap.size = n13 at hA13 hlt12 hge13 ⊢
            generalize World.alloc _ _ = Wn at hA13 hA12 hFr ⊢
            have hTn := HT.out _ hFr
            refine hK.out (At St) _ _ (fun _ h => h) (fun _ => by (assumption)) ?_
            clear hK K
            try simp only [Act.put, List.setIfInBounds_toArray, List.set_cons_zero, List.set_cons_succ]
            refine rt_one 14 rfl (by kernel_rfl) (fun K hK => ?_)
            have b0 := Blk.cell hA12 0
            have b1 := Blk.cell hA12 1
            have bf := Blk.frozen hA12
            simp only [List.getElem?_toArray, List.getElem?_cons_zero, List.getElem?_cons_succ] at b0 b1
            go_simp
            have hne : n13 ≠ n12 := by omega
            replace hA13 := Blk.far2 hA13 hne (.bool ou.1) (.float .f64 ou.2)
            replace hA12 := Blk.set2 hA12 (u := .bool ou.1) (v := .float .f64 ou.2)
            replace hFr := hFr.set2 (.inr hge12) (.bool ou.1) (.float .f64 ou.2)
            clear b0 b1 bf hne
            generalize World.setCell _ _ _ = Wn at hA12 hA13 hFr ⊢
            have hTn := HT.out _ hFr
            refine hK.out (At St) _ _ (fun _ h => h) (fun _ => by (assumption)) ?_
            clear hK K
            try simp only [Act.put, List.setIfInBounds_toArray, List.set_cons_zero, List.set_cons_succ]
            refine rt_one 15 rfl (by kernel_rfl) (fun K hK => ?_)
            have b0 := Blk.cell hA13 0
            have b1 := Blk.cell hA13 1
            have bf := Blk.frozen hA13
            simp only [List.getElem?_toArray, List.getElem?_cons_zero, List.getElem?_cons_succ] at b0 b1
            go_simp
            have hne : n12 ≠ n13 := by omega
            replace hA12 := Blk.far2 hA12 hne (.bool ot.1) (.float .f64 ot.2)
            replace hA13 := Blk.set2 hA13 (u := .bool ot.1) (v := .float .f64 ot.2)
            replace hFr := hFr.set2 (.inr hge13) (.bool ot.1) (.float .f64 ot.2)
            clear b0 b1 bf hne
            generalize World.setCell _ _ _ = Wn at hA13 hA12 hFr ⊢
            have hTn := HT.out _ hFr
            refine hK.out (At St) _ _ (fun _ h => h) (late_abs (by kernel_rfl)) ?_
            clear hK K
            try simp only [Act.put, List.setIfInBounds_toArray, List.set_cons_zero, List.set_cons_succ]
            refine rt_done (by kernel_rfl) ?_
            all_goals exact cont n12 n13 Wn hA12 hA13 (by omega) hge12 hge13 hFr
          refine AllNextt.cons rfl (fun K hK => ?_) ?_
          · skip
            go_simp
            have hlt12 := Blk.lt hA12
            have hge13 := hFr.size
            clear hA13
            have hA13 := Blk.new Wn 53 #[.bool false, .float .f64 0]
            replace hA12 := Blk.alloc hA12 (.cells #[.bool false, .float .f64 0] 53)
            replace hFr := hFr.alloc (.cells #[.bool false, .float .f64 0] 53)
            generalize Wn.heap.size = n13 at hA13 hlt12 hge13 ⊢
            generalize World.alloc _ _ = Wn at hA13 hA12 hFr ⊢
            have hTn := HT.out _ hFr
            refine hK.out (At St) _ _ (fun _ h => h) (fun _ => by (assumption)) ?_
            clear hK K
            try simp only [Act.put, List.setIfInBounds_toArray, List.set_cons_zero, List.set_cons_succ]
            refine rt_one 12 rfl (by kernel_rfl) (fun K hK => ?_)
            go_simp
            have hlt13 := Blk.lt hA13
            have hge12 := hFr.size
            clear hA12
            have hA12 := Blk.new Wn 53 #[.bool false, .float .f64 0]
            replace hA13 := Blk.alloc hA13 (.cells #[.bool false, .float .f64 0] 53)
            replace hFr := hFr.alloc (.cells #[.bool false, .float .f64 0] 53)
            generalize Wn.heap.size = n12 at hA12 hlt13 hge12 ⊢
            generalize World.alloc _ _ = Wn at hA12 hA13 hFr ⊢
            have hTn := HT.out _ hFr
            refine hK.out (At St) _ _ (fun _ h => h) (fun _ => by (assumption)) ?_
            clear hK K
            try simp only [Act.put, List.setIfInBounds_toArray, List.set_cons_zero, List.set_cons_succ]
            refine rt_one 14 rfl (by kernel_rfl) (fun K hK => ?_)
            have b0 := Blk.cell hA12 0
            have b1 := Blk.cell hA12 1
            have bf := Blk.frozen hA12
            simp only [List.getElem?_toArray, List.getElem?_cons_zero, List.getElem?_cons_succ] at b0 b1
            go_simp
            have hne : n13 ≠ n12 := by omega
            replace hA13 := Blk.far2 hA13 hne (.bool ou.1) (.float .f64 ou.2)
            replace hA12 := Blk.set2 hA12 (u := .bool ou.1) (v := .float .f64 ou.2)
            replace hFr := hFr.set2 (.inr hge12) (.bool ou.1) (.float .f64 ou.2)
            clear b0 b1 bf hne
            generalize World.setCell _ _ _ = Wn at hA12 hA13 hFr ⊢
            have hTn := HT.out _ hFr
            refine hK.out (At St) _ _ (fun _ h => h) (fun _ => by (assumption)) ?_
            clear hK K
            try simp only [Act.put, List.setIfInBounds_toArray, List.set_cons_zero, List.set_cons_succ]
            refine rt_one 15 rfl (by kernel_rfl) (fun K hK => ?_)
            have b0 := Blk.cell hA13 0
            have b1 := Blk.cell hA13 1
            have bf := Blk.frozen hA13
            simp only [List.getElem?_toArray, List.getElem?_cons_zero, List.getElem?_cons_succ] at b0 b1
            go_simp
            have hne : n12 ≠ n13 := by omega
            replace hA12 := Blk.far2 hA12 hne (.bool ot.1) (.float .f64 ot.2)
            replace hA13 := Blk.set2 hA13 (u := .bool ot.1) (v := .float .f64 ot.2)
            replace hFr := hFr.set2 (.inr hge13) (.bool ot.1) (.float .f64 ot.2)
            clear b0 b1 bf hne
            generalize World.setCell _ _ _ = Wn at hA13 hA12 hFr ⊢
            have hTn := HT.out _ hFr
            refine hK.out (At St) _ _ (fun _ h => h) (late_abs (by kernel_rfl)) ?_
            clear hK K
            try simp only [Act.put, List.setIfInBounds_toArray, List.set_cons_zero, List.set_cons_succ]
            refine rt_done (by kernel_rfl) ?_
            all_goals exact cont n12 n13 Wn hA12 hA13 (by omega) hge12 hge13 hFr
          exact AllNextt.nil
          all_goals exact cont n12 n13 Wn hA12 hA13 (by omega) hge12 hge13 hFr
        refine AllNextt.cons rfl (fun K hK => ?_) ?_
        · skip
          go_simp
          have hlt13 := Blk.lt hA13
          have hge12 := hFr.size
          clear hA12
          have hA12 := Blk.new Wn 53 #[.bool false, .float .f64 0]
          replace hA13 := Blk.alloc hA13 (.cells #[.bool false, .float .f64 0] 53)
          replace hFr := hFr.alloc (.cells #[.bool false, .float .f64 0] 53)
          generalize Wn.heap.size = n12 at hA12 hlt13 hge12 ⊢
          generalize World.alloc _ _ = Wn at hA12 hA13 hFr ⊢
          have hTn := HT.out _ hFr
          refine hK.out (At St) _ _ (fun _ h => h) (fun _ => by (assumption)) ?_
          clear hK K
          try simp only [Act.put, List.setIfInBounds_toArray, List.set_cons_zero, List.set_cons_succ]
          refine rt_ready [8, 13] (by kernel_rfl) (by simp) ?_
          refine AllNextt.cons rfl (fun K hK => ?_) ?_
          · skip
            go_simp
            refine (cell_do ob (cmx L k) Wn (by rw [HOB.out]; exact HCC.out.1) HCG.out).mono ?_
            rintro r Wm ⟨rfl, hFx⟩
            rw [show absC ob = ob from by rw [HOB.out]; exact HCC.out.2, ← HOU.out, ← HOT.out]
            replace hFr := hFr.trans hFx
            replace hA12 := Blk.fr hA12 hFx (fun h => h)
            replace hA13 := Blk.fr hA13 hFx (fun h => h)
            have hTn := HT.out _ hFr
            clear hFx
            go_wp2_with fail
            generalize Wm = Wn at hFr hTn hA12 hA13 ⊢
            refine hK.out (At St) _ _ (fun _ h => h) (fun _ => by (assumption)) ?_
            clear hK K
            try simp only [Act.put, List.setIfInBounds_toArray, List.set_cons_zero, List.set_cons_succ]
            refine rt_free 9 (v := ?_) rfl (by kernel_rfl) (by kernel_rfl) (by kernel_rfl) (by kernel_rfl) (fun _ _ _ h => h) (by rfl) (fun _ => by first | assumption | exact HS0 _ rfl | exact HT.out _ (by repeat (first | exact Fr.refl _ _ | apply Fr.drew | refine Fr.alloc ?_ _))) ?_ ?_
            rotate_left 1
            · intro w; go_simp <;> with_reducible rfl
            try simp only [Act.put, List.setIfInBounds_toArray, List.set_cons_zero, List.set_cons_succ]
            refine rt_free 10 (v := ?_) rfl (by kernel_rfl) (by kernel_rfl) (by kernel_rfl) (by kernel_rfl) (fun _ _ _ h => h) (by rfl) (fun _ => by first | assumption | exact HS0 _ rfl | exact HT.out _ (by repeat (first | exact Fr.refl _ _ | apply Fr.drew | refine Fr.alloc ?_ _))) ?_ ?_
            rotate_left 1
            · intro w; go_simp <;> with_reducible rfl
            try simp only [Act.put, List.setIfInBounds_toArray, List.set_cons_zero, List.set_cons_succ]
            refine rt_free 11 (v := ?_) rfl (by kernel_rfl) (by kernel_rfl) (by kernel_rfl) (by kernel_rfl) (fun _ _ _ h => h) (by rfl) (fun _ => by first | assumption | exact HS0 _ rfl | exact HT.out _ (by repeat (first | exact Fr.refl _ _ | apply Fr.drew | refine Fr.alloc ?_ _))) ?_ ?_
            rotate_left 1
            · intro w; go_simp <;> with_reducible rfl
            try simp only [Act.put, List.setIfInBounds_toArray, List.set_cons_zero, List.set_cons_succ]
            refine rt_one 13 rfl (by kernel_rfl) (fun K hK => ?_)
            go_simp
            have hlt12 := Blk.lt hA12
            have hge13 := hFr.size
            clear hA13
            have hA13 := Blk.new Wn 53 #[.bool false, .float .f64 0]
            replace hA12 := Blk.alloc hA12 (.cells #[.bool false, .float .f64 0] 53)
            replace hFr := hFr.alloc (.cells #[.bool false, .float .f64 0] 53)
            generalize Wn.heap.size = n13 at hA13 hlt12 hge13 ⊢
            generalize World.alloc _ _ = Wn at hA13 hA12 hFr ⊢
            have hTn := HT.out _ hFr
            refine hK.out (At St) _ _ (fun _ h => h) (fun _ => by (assumption)) ?_
            clear hK K
            try simp only [Act.put, List.setIfInBounds_toArray, List.set_cons_zero, List.set_cons_succ]
            refine rt_one 14 rfl (by kernel_rfl) (fun K hK => ?_)
            have b0 := Blk.cell hA12 0
            have b1 := Blk.cell hA12 1
            have bf := Blk.frozen hA12
            simp only [List.getElem?_toArray, List.getElem?_cons_zero, List.getElem?_cons_succ] at b0 b1
            go_simp
            have hne : n13 ≠ n12 := by omega
            replace hA13 := Blk.far2 hA13 hne (.bool ou.1) (.float .f64 ou.2)
            replace hA12 := Blk.set2 hA12 (u := .bool ou.1) (v := .float .f64 ou.2)
            replace hFr := hFr.set2 (.inr hge12) (.bool ou.1) (.float .f64 ou.2)
            clear b0 b1 bf hne
            generalize World.setCell _ _ _ = Wn at hA12 hA13 hFr ⊢
            have hTn := HT.out _ hFr
            refine hK.out (At St) _ _ (fun _ h => h) (fun _ => by (assumption)) ?_
            clear hK K
            try simp only [Act.put, List.setIfInBounds_toArray, List.set_cons_zero, List.set_cons_succ]
            refine rt_one 15 rfl (by kernel_rfl) (fun K hK => ?_)
            have b0 := Blk.cell hA13 0
            have b1 := Blk.cell hA13 1
            have bf := Blk.frozen hA13
            simp only [List.getElem?_toArray, List.getElem?_cons_zero, List.getElem?_cons_succ] at b0 b1
            go_simp
            have hne : n12 ≠ n13 := by omega
            replace hA12 := Blk.far2 hA12 hne (.bool ot.1) (.float .f64 ot.2)
            replace hA13 := Blk.set2 hA13 (u := .bool ot.1) (v := .float .f64 ot.2)
            replace hFr := hFr.set2 (.inr hge13) (.bool ot.1) (.float .f64 ot.2)
            clear b0 b1 bf hne
            generalize World.setCell _ _ _ = Wn at hA13 hA12 hFr ⊢
            have hTn := HT.out _ hFr
            refine hK.out (At St) _ _ (fun _ h => h) (late_abs (by kernel_rfl)) ?_
            clear hK K
            try simp only [Act.put, List.setIfInBounds_toArray, List.set_cons_zero, List.set_cons_succ]
            refine rt_done (by kernel_rfl) ?_
            all_goals exact cont n12 n13 Wn hA12 hA13 (by omega) hge12 hge13 hFr
          refine AllNextt.cons rfl (fun K hK => ?_) ?_
          · skip
            go_simp
            have hlt12 := Blk.lt hA12
            have hge13 := hFr.size
            clear hA13
            have hA13 := Blk.new Wn 53 #[.bool false, .float .f64 0]
            replace hA12 := Blk.alloc hA12 (.cells #[.bool false, .float .f64 0] 53)
            replace hFr := hFr.alloc (.cells #[.bool false, .float .f64 0] 53)
            generalize Wn.heap.size = n13 at hA13 hlt12 hge13 ⊢
            generalize World.alloc _ _ = Wn at hA13 hA12 hFr ⊢
            have hTn := HT.out _ hFr
            refine hK.out (At St) _ _ (fun _ h => h) (fun _ => by (assumption)) ?_
            clear hK K
            try simp only [Act.put, List.setIfInBounds_toArray, List.set_cons_zero, List.set_cons_succ]
            refine rt_one 8 rfl (by kernel_rfl) (fun K hK => ?_)
            go_simp
            refine (cell_do ob (cmx L k) Wn (by rw [HOB.out]; exact HCC.out.1) HCG.out).mono ?_
            rintro r Wm ⟨rfl, hFx⟩
            rw [show absC ob = ob from by rw [HOB.out]; exact HCC.out.2, ← HOU.out, ← HOT.out]
            replace hFr := hFr.trans hFx
            replace hA12 := Blk.fr hA12 hFx (fun h => h)
            replace hA13 := Blk.fr hA13 hFx (fun h => h)
            have hTn := HT.out _ hFr
            clear hFx
            go_wp2_with fail
            generalize Wm = Wn at hFr hTn hA12 hA13 ⊢
            refine hK.out (At St) _ _ (fun _ h => h) (fun _ => by (assumption)) ?_
            clear hK K
            try simp only [Act.put, List.setIfInBounds_toArray, List.set_cons_zero, List.set_cons_succ]
            refine rt_free 9 (v := ?_) rfl (by kernel_rfl) (by kernel_rfl) (by kernel_rfl) (by kernel_rfl) (fun _ _ _ h => h) (by rfl) (fun _ => by first | assumption | exact HS0 _ rfl | exact HT.out _ (by repeat (first | exact Fr.refl _ _ | apply Fr.drew | refine Fr.alloc ?_ _))) ?_ ?_
            rotate_left 1
            · intro w; go_simp <;> with_reducible rfl
            try simp only [Act.put, List.setIfInBounds_toArray, List.set_cons_zero, List.set_cons_succ]
            refine rt_free 10 (v := ?_) rfl (by kernel_rfl) (by kernel_rfl) (by kernel_rfl) (by kernel_rfl) (fun _ _ _ h => h) (by rfl) (fun _ => by first | assumption | exact HS0 _ rfl | exact HT.out _ (by repeat (first | exact Fr.refl _ _ | apply Fr.drew | refine Fr.alloc ?_ _))) ?_ ?_
            rotate_left 1
            · intro w; go_simp <;> with_reducible rfl
            try simp only [Act.put, List.setIfInBounds_toArray, List.set_cons_zero, List.set_cons_succ]
            refine rt_free 11 (v := ?_) rfl (by kernel_rfl) (by kernel_rfl) (by kernel_rfl) (by kernel_rfl) (fun _ _ _ h => h) (by rfl) (fun _ => by first | assumption | exact HS0 _ rfl | exact HT.out _ (by repeat (first | exact Fr.refl _ _ | apply Fr.drew | refine Fr.alloc ?_ _))) ?_ ?_
            rotate_left 1
            · intro w; go_simp <;> with_reducible rfl
            try simp only [Act.put, List.setIfInBounds_toArray, List.set_cons_zero, List.set_cons_succ]
            refine rt_one 14 rfl (by kernel_rfl) (fun K hK => ?_)
            have b0 := Blk.cell hA12 0
            have b1 := Blk.cell hA12 1
            have bf := Blk.frozen hA12
            simp only [List.getElem?_toArray, List.getElem?_cons_zero, List.getElem?_cons_succ] at b0 b1
            go_simp
            have hne : n13 ≠ n12 := by omega
            replace hA13 := Blk.far2 hA13 hne (.bool ou.1) (.float .f64 ou.2)
            replace hA12 := Blk.set2 hA12 (u := .bool ou.1) (v := .float .f64 ou.2)
            replace hFr := hFr.set2 (.inr hge12) (.bool ou.1) (.float .f64 ou.2)
            clear b0 b1 bf hne
            generalize World.setCell _ _ _ = Wn at hA12 hA13 hFr ⊢
            have hTn := HT.out _ hFr
            refine hK.out (At St) _ _ (fun _ h => h) (fun _ => by (assumption)) ?_
            clear hK K
            try simp only [Act.put, List.setIfInBounds_toArray, List.set_cons_zero, List.set_cons_succ]
            refine rt_one 15 rfl (by kernel_rfl) (fun K hK => ?_)
            have b0 := Blk.cell hA13 0
            have b1 := Blk.cell hA13 1
            have bf := Blk.frozen hA13
            simp only [List.getElem?_toArray, List.getElem?_cons_zero, List.getElem?_cons_succ] at b0 b1
            go_simp
            have hne : n12 ≠ n13 := by omega
            replace hA12 := Blk.far2 hA12 hne (.bool ot.1) (.float .f64 ot.2)
            replace hA13 := Blk.set2 hA13 (u := .bool ot.1) (v := .float .f64 ot.2)
            replace hFr := hFr.set2 (.inr hge13) (.bool ot.1) (.float .f64 ot.2)
            clear b0 b1 bf hne
            generalize World.setCell _ _ _ = Wn at hA13 hA12 hFr ⊢
            have hTn := HT.out _ hFr
            refine hK.out (At St) _ _ (fun _ h => h) (late_abs (by kernel_rfl)) ?_
            clear hK K
            try simp only [Act.put, List.setIfInBounds_toArray, List.set_cons_zero, List.set_cons_succ]
            refine rt_done (by kernel_rfl) ?_
            all_goals exact cont n12 n13 Wn hA12 hA13 (by omega) hge12 hge13 hFr
          exact AllNextt.nil
          all_goals exact cont n12 n13 Wn hA12 hA13 (by omega) hge12 hge13 hFr
        refine AllNextt.cons rfl (fun K hK => ?_) ?_
        · skip
          go_simp
          have hlt12 := Blk.lt hA12
          have hge13 := hFr.size
          clear hA13
          have hA13 := Blk.new Wn 53 #[.bool false, .float .f64 0]
          replace hA12 := Blk.alloc hA12 (.cells #[.bool false, .float .f64 0] 53)
          replace hFr := hFr.alloc (.cells #[.bool false, .float .f64 0] 53)
          generalize Wn.heap.size = n13 at hA13 hlt12 hge13 ⊢
          generalize World.alloc _ _ = Wn at hA13 hA12 hFr ⊢
          have hTn := HT.out _ hFr
          refine hK.out (At St) _ _ (fun _ h => h) (fun _ => by (assumption)) ?_
          clear hK K
          try simp only [Act.put, List.setIfInBounds_toArray, List.set_cons_zero, List.set_cons_succ]
          refine rt_ready [8, 12] (by kernel_rfl) (by simp) ?_
          refine AllNextt.cons rfl (fun K hK => ?_) ?_
          · skip
            go_simp
            refine (cell_do ob (cmx L k) Wn (by rw [HOB.out]; exact HCC.out.1) HCG.out).mono ?_
            rintro r Wm ⟨rfl, hFx⟩
            rw [show absC ob = ob from by rw [HOB.out]; exact HCC.out.2, ← HOU.out, ← HOT.out]
            replace hFr := hFr.trans hFx
            replace hA12 := Blk.fr hA12 hFx (fun h => h)
            replace hA13 := Blk.fr hA13 hFx (fun h => h)
            have hTn := HT.out _ hFr
            clear hFx
            go_wp2_with fail
            generalize Wm = Wn at hFr hTn hA12 hA13 ⊢
            refine hK.out (At St) _ _ (fun _ h => h) (fun _ => by (assumption)) ?_
            clear hK K
            try simp only [Act.put, List.setIfInBounds_toArray, List.set_cons_zero, List.set_cons_succ]
            refine rt_free 9 (v := ?_) rfl (by kernel_rfl) (by kernel_rfl) (by kernel_rfl) (by kernel_rfl) (fun _ _ _ h => h) (by rfl) (fun _ => by first | assumption | exact HS0 _ rfl | exact HT.out _ (by repeat (first | exact Fr.refl _ _ | apply Fr.drew | refine Fr.alloc ?_ _))) ?_ ?_
            rotate_left 1
            · intro w; go_simp <;> with_reducible rfl
            try simp only [Act.put, List.setIfInBounds_toArray, List.set_cons_zero, List.set_cons_succ]
            refine rt_free 10 (v := ?_) rfl (by kernel_rfl) (by kernel_rfl) (by kernel_rfl) (by kernel_rfl) (fun _ _ _ h => h) (by rfl) (fun _ => by first | assumption | exact HS0 _ rfl | exact HT.out _ (by repeat (first | exact Fr.refl _ _ | apply Fr.drew | refine Fr.alloc ?_ _))) ?_ ?_
            rotate_left 1
            · intro w; go_simp <;> with_reducible rfl
            try simp only [Act.put, List.setIfInBounds_toArray, List.set_cons_zero, List.set_cons_succ]
            refine rt_free 11 (v := ?_) rfl (by kernel_rfl) (by kernel_rfl) (by kernel_rfl) (by kernel_rfl) (fun _ _ _ h => h) (by rfl) (fun _ => by first | assumption | exact HS0 _ rfl | exact HT.out _ (by repeat (first | exact Fr.refl _ _ | apply Fr.drew | refine Fr.alloc ?_ _))) ?_ ?_
            rotate_left 1
            · intro w; go_simp <;> with_reducible rfl
            try simp only [Act.put, List.setIfInBounds_toArray, List.set_cons_zero, List.set_cons_succ]
            refine rt_one 12 rfl (by kernel_rfl) (fun K hK => ?_)
            go_simp
            have hlt13 := Blk.lt hA13
            have hge12 := hFr.size
            clear hA12
            have hA12 := Blk.new Wn 53 #[.bool false, .float .f64 0]
            replace hA13 := Blk.alloc hA13 (.cells #[.bool false, .float .f64 0] 53)
            replace hFr := hFr.alloc (.cells #[.bool false, .float .f64 0] 53)
            generalize Wn.heap.size = n12 at hA12 hlt13 hge12 ⊢
            generalize World.alloc _ _ = Wn at hA12 hA13 hFr ⊢
            have hTn := HT.out _ hFr
            refine hK.out (At St) _ _ (fun _ h => h) (fun _ => by (assumption)) ?_
            clear hK K
            try simp only [Act.put, List.setIfInBounds_toArray, List.set_cons_zero, List.set_cons_succ]
            refine rt_one 14 rfl (by kernel_rfl) (fun K hK => ?_)
            have b0 := Blk.cell hA12 0
            have b1 := Blk.cell hA12 1
            have bf := Blk.frozen hA12
            simp only [List.getElem?_toArray, List.getElem?_cons_zero, List.getElem?_cons_succ] at b0 b1
            go_simp
            have hne : n13 ≠ n12 := by omega
            replace hA13 := Blk.far2 hA13 hne (.bool ou.1) (.float .f64 ou.2)
            replace hA12 := Blk.set2 hA12 (u := .bool ou.1) (v := .float .f64 ou.2)
            replace hFr := hFr.set2 (.inr hge12) (.bool ou.1) (.float .f64 ou.2)
            clear b0 b1 bf hne
            generalize World.setCell _ _ _ = Wn at hA12 hA13 hFr ⊢
            have hTn := HT.out _ hFr
            refine hK.out (At St) _ _ (fun _ h => h) (fun _ => by (assumption)) ?_
            clear hK K
            try simp only [Act.put, List.setIfInBounds_toArray, List.set_cons_zero, List.set_cons_succ]
            refine rt_one 15 rfl (by kernel_rfl) (fun K hK => ?_)
            have b0 := Blk.cell hA13 0
            have b1 := Blk.cell hA13 1
            have bf := Blk.frozen hA13
            simp only [List.getElem?_toArray, List.getElem?_cons_zero, List.getElem?_cons_succ] at b0 b1
            go_simp
            have hne : n12 ≠ n13 := by omega
            replace hA12 := Blk.far2 hA12 hne (.bool ot.1) (.float .f64 ot.2)
            replace hA13 := Blk.set2 hA13 (u := .bool ot.1) (v := .float .f64 ot.2)
            replace hFr := hFr.set2 (.inr hge13) (.bool ot.1) (.float .f64 ot.2)
            clear b0 b1 bf hne
            generalize World.setCell _ _ _ = Wn at hA13 hA12 hFr ⊢
            have hTn := HT.out _ hFr
            refine hK.out (At St) _ _ (fun _ h => h) (late_abs (by kernel_rfl)) ?_
            clear hK K
            try simp only [Act.put, List.setIfInBounds_toArray, List.set_cons_zero, List.set_cons_succ]
            refine rt_done (by kernel_rfl) ?_
            all_goals exact cont n12 n13 Wn hA12 hA13 (by omega) hge12 hge13 hFr
          refine AllNextt.cons rfl (fun K hK => ?_) ?_
          · skip
            go_simp
            have hlt13 := Blk.lt hA13
            have hge12 := hFr.size
            clear hA12
            have hA12 := Blk.new Wn 53 #[.bool false, .float .f64 0]
            replace hA13 := Blk.alloc hA13 (.cells #[.bool false, .float .f64 0] 53)
            replace hFr := hFr.alloc (.cells #[.bool false, .float .f64 0] 53)
            generalize Wn.heap.size = n12 at hA12 hlt13 hge12 ⊢
            generalize World.alloc _ _ = Wn at hA12 hA13 hFr ⊢
            have hTn := HT.out _ hFr
            refine hK.out (At St) _ _ (fun _ h => h) (fun _ => by (assumption)) ?_
            clear hK K
            try simp only [Act.put, List.setIfInBounds_toArray, List.set_cons_zero, List.set_cons_succ]
            refine rt_one 8 rfl (by kernel_rfl) (fun K hK => ?_)
            go_simp
            refine (cell_do ob (cmx L k) Wn (by rw [HOB.out]; exact HCC.out.1) HCG.out).mono ?_
            rintro r Wm ⟨rfl, hFx⟩
            rw [show absC ob = ob from by rw [HOB.out]; exact HCC.out.2, ← HOU.out, ← HOT.out]
            replace hFr := hFr.trans hFx
            replace hA12 := Blk.fr hA12 hFx (fun h => h)
            replace hA13 := Blk.fr hA13 hFx (fun h => h)
            have hTn := HT.out _ hFr
            clear hFx
            go_wp2_with fail
            generalize Wm = Wn at hFr hTn hA12 hA13 ⊢
            refine hK.out (At St) _ _ (fun _ h => h) (fun _ => by (assumption)) ?_
            clear hK K
            try simp only [Act.put, List.setIfInBounds_toArray, List.set_cons_zero, List.set_cons_succ]
            refine rt_free 9 (v := ?_) rfl (by kernel_rfl) (by kernel_rfl) (by kernel_rfl) (by kernel_rfl) (fun _ _ _ h => h) (by rfl) (fun _ => by first | assumption | exact HS0 _ rfl | exact HT.out _ (by repeat (first | exact Fr.refl _ _ | apply Fr.drew | refine Fr.alloc ?_ _))) ?_ ?_
            rotate_left 1
            · intro w; go_simp <;> with_reducible rfl
            try simp only [Act.put, List.setIfInBounds_toArray, List.set_cons_zero, List.set_cons_succ]
            refine rt_free 10 (v := ?_) rfl (by kernel_rfl) (by kernel_rfl) (by kernel_rfl) (by kernel_rfl) (fun _ _ _ h => h) (by rfl) (fun _ => by first | assumption | exact HS0 _ rfl | exact HT.out _ (by repeat (first | exact Fr.refl _ _ | apply Fr.drew | refine Fr.alloc ?_ _))) ?_ ?_
            rotate_left 1
            · intro w; go_simp <;> with_reducible rfl
            try simp only [Act.put, List.setIfInBounds_toArray, List.set_cons_zero, List.set_cons_succ]
            refine rt_free 11 (v := ?_) rfl (by kernel_rfl) (by kernel_rfl) (by kernel_rfl) (by kernel_rfl) (fun _ _ _ h => h) (by rfl) (fun _ => by first | assumption | exact HS0 _ rfl | exact HT.out _ (by repeat (first | exact Fr.refl _ _ | apply Fr.drew | refine Fr.alloc ?_ _))) ?_ ?_
            rotate_left 1
            · intro w; go_simp <;> with_reducible rfl
            try simp only [Act.put, List.setIfInBounds_toArray, List.set_cons_zero, List.set_cons_succ]
            refine rt_one 14 rfl (by kernel_rfl) (fun K hK => ?_)
            have b0 := Blk.cell hA12 0
            have b1 := Blk.cell hA12 1
            have bf := Blk.frozen hA12
            simp only [List.getElem?_toArray, List.getElem?_cons_zero, List.getElem?_cons_succ] at b0 b1
            go_simp
            have hne : n13 ≠ n12 := by omega
            replace hA13 := Blk.far2 hA13 hne (.bool ou.1) (.float .f64 ou.2)
            replace hA12 := Blk.set2 hA12 (u := .bool ou.1) (v := .float .f64 ou.2)
            replace hFr := hFr.set2 (.inr hge12) (.bool ou.1) (.float .f64 ou.2)
            clear b0 b1 bf hne
            generalize World.setCell _ _ _ = Wn at hA12 hA13 hFr ⊢
            have hTn := HT.out _ hFr
            refine hK.out (At St) _ _ (fun _ h => h) (fun _ => by (assumption)) ?_
            clear hK K
            try simp only [Act.put, List.setIfInBounds_toArray, List.set_cons_zero, List.set_cons_succ]
            refine rt_one 15 rfl (by kernel_rfl) (fun K hK => ?_)
            have b0 := Blk.cell hA13 0
            have b1 := Blk.cell hA13 1
            have bf := Blk.frozen hA13
            simp only [List.getElem?_toArray, List.getElem?_cons_zero, List.getElem?_cons_succ] at b0 b1
            go_simp
            have hne : n12 ≠ n13 := by omega
            replace hA12 := Blk.far2 hA12 hne (.bool ot.1) (.float .f64 ot.2)
            replace hA13 := Blk.set2 hA13 (u := .bool ot.1) (v := .float .f64 ot.2)
            replace hFr := hFr.set2 (.inr hge13) (.bool ot.1) (.float .f64 ot.2)
            clear b0 b1 bf hne
            generalize World.setCell _ _ _ = Wn at hA13 hA12 hFr ⊢
            have hTn := HT.out _ hFr
            refine hK.out (At St) _ _ (fun _ h => h) (late_abs (by kernel_rfl)) ?_
            clear hK K
            try simp only [Act.put, List.setIfInBounds_toArray, List.set_cons_zero, List.set_cons_succ]
            refine rt_done (by kernel_rfl) ?_
            all_goals exact cont n12 n13 Wn hA12 hA13 (by omega) hge12 hge13 hFr
          exact AllNextt.nil
          all_goals exact cont n12 n13 Wn hA12 hA13 (by omega) hge12 hge13 hFr
        exact AllNextt.nil
      · obtain rfl : n = k := by omega
        have tnn : decide (n < n) = false := decide_eq_false (by omega)
        clear hk hge
        go_wp2_with fail
        go_ret2
        have hlen := HLn.out
        refine .inl ⟨HE.out, _, S', rfl, ⟨mc, ml, F', Lh', by rw [hlen]; exact HVr.out⟩, fun b hb => (HS'.out b hb).elim .inl (fun h => .inr h.1), HG.out, by rw [hlen]; exact HR9.out⟩
  · have HE := Lib.hid he
    obtain ⟨mc, ml, F, Lh, hV⟩ := HV.out
    have hne : errBat L ≠ 0 := by omega
    have HNE := Lib.hid hne
    clear he hne
    go_enter Try.func8, Try.ntmps8
    go_wp2_with fail
    refine (bat_check A n c L _ (Kd.C_below HC.out (hF0.below (fun _ _ h => h))) HO.out).mono ?_
    rintro r w2 ⟨rfl, hF2⟩
    rw [HE.out]
    go_wp2_with fail
    go_ret2
    exact .inr ⟨HNE.out, (by rw [HE.out]; rfl), hF0.trans hF2⟩
  · have HE := Lib.hid he
    obtain ⟨mc, ml, F, Lh, hV⟩ := HV.out
    have hne : errBat L ≠ 0 := by omega
    have HNE := Lib.hid hne
    clear he hne
    go_enter Try.func8, Try.ntmps8
    go_wp2_with fail
    refine (bat_check A n c L _ (Kd.C_below HC.out (hF0.below (fun _ _ h => h))) HO.out).mono ?_
    rintro r w2 ⟨rfl, hF2⟩
    rw [HE.out]
    go_wp2_with fail
    go_ret2
    exact .inr ⟨HNE.out, (by rw [HE.out]; rfl), hF0.trans hF2⟩
end Go.Proofs.Ytepfhcimmbkilaa
