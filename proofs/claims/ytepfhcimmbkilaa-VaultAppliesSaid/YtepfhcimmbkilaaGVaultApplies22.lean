/- Texts of VaultApplies, merged (22 of 33): VaultT. -/
import Derived.Test.YtepfhcimmbkilaaGVaultApplies10
set_option linter.unusedVariables false
set_option linter.unusedSimpArgs false
/- Vault.Twin: a vault with the same, in new memory. -/
namespace Go.Proofs.Ytepfhcimmbkilaa
open Go.RowKit
open Go.Proofs.YtepfhcimmbkilaaW.PrintWords

theorem vault_new' (w : World) : Calls Try.prog 6 #[] w fun r w' => ∃ g mc ml S, r = .returned (.pointer (some ⟨g, 0, none⟩)) ∧ VaultAt w' S g mc ml (fun _ => none) (fun _ => none) [] 0 ∧ (∀ k, S k ↔ k = mc ∨ k = ml ∨ k = g) ∧ (w.heap.size ≤ mc ∧ w.heap.size ≤ ml ∧ w.heap.size ≤ g) ∧ Fr (fun _ => False) w w' := by
  have h1 := ((MapIn.new strE cellV w).alloc (.map #[] 0)).alloc (.cells #[.map (some w.heap.size), .map (some (w.heap.size + 1)), .int .i64 0] 62)
  have h2 := (MapIn.new strE hdrV (w.alloc (.map #[] 0))).alloc (.cells #[.map (some w.heap.size), .map (some (w.heap.size + 1)), .int .i64 0] 62)
  have h3 := Blk.new ((w.alloc (.map #[] 0)).alloc (.map #[] 0)) 62 #[.map (some w.heap.size), .map (some (w.heap.size + 1)), .int .i64 0]
  have hF := (((Fr.refl (fun _ => False) w).alloc (.map #[] 0)).alloc (.map #[] 0)).alloc (.cells #[.map (some w.heap.size), .map (some (w.heap.size + 1)), .int .i64 0] 62)
  rw [World.size_alloc] at h2
  rw [World.size_alloc, World.size_alloc] at h3
  have hmm := @run_makeMap Try.prog
  go_enter Try.func6, Try.ntmps6
  go_wp2_with fail
  go_ret
  refine ⟨_, w.heap.size, w.heap.size + 1, fun k => k = w.heap.size ∨ k = w.heap.size + 1 ∨ k = w.heap.size + 1 + 1, rfl, ⟨h3, ⟨.inr (.inr rfl), .inl rfl, .inr (.inl rfl)⟩, by omega, h1, fun k => rfl, h2, ⟨fun k h hk => (by cases hk), fun k _ => rfl, fun k k' h h' b hk => (by cases hk)⟩, ?_⟩, fun k => Iff.rfl, ⟨Nat.le_refl _, by omega, by omega⟩, hF⟩
  intro k hk
  simp only [World.size_alloc]
  omega
/-- A log that lies in memory of its own, put under its key. -/
theorem LogsAt.put {w w1 : World} {y : Nat} {Lh : ByteArray → Option Hdr} {H : List HE} (h : LogsAt w (fun b => y ≤ b ∧ b < w.heap.size) Lh (fun s => if (Lh s).isSome = true then logOf H s else [])) {key : ByteArray} {h1 : Hdr} {base : Nat}
    (hF : ∀ b, y ≤ b → b < w.heap.size → w1.heap[b]? = w.heap[b]?) (hs : w.heap.size ≤ w1.heap.size) (hb : w.heap.size ≤ base) (hy : y ≤ base)
    (hR : wrK.R 67 w1 base (fun b => base ≤ b) (hdrV h1) (logOf H key)) :
    LogsAt w1 (fun b => y ≤ b ∧ b < w1.heap.size) (fun x => if x = key then some h1 else Lh x) (fun s => if ((if s = key then some h1 else Lh s) : Option Hdr).isSome = true then logOf H s else []) := by
  refine ⟨fun k h' hk => ?_, fun k hk => ?_, fun k k' h' h'' b hk hk' hb1 hb2 => ?_⟩
  · by_cases hkk : k = key
    · subst hkk
      rw [if_pos rfl] at hk
      cases hk
      simp only [if_pos, Option.isSome_some]
      exact Kd.R_mono (Kd.R_bound (Kd.R_lower hR (Nat.zero_le _))) (fun b hb' => ⟨Nat.le_trans hy hb'.1, hb'.2.2.1⟩)
    · rw [if_neg hkk] at hk
      have h0 := h.row k h' hk
      rw [if_pos (by rw [hk]; rfl)] at h0
      simp only [if_neg hkk, hk, Option.isSome_some, if_true]
      exact Kd.R_mono (Kd.R_step h0 (fun b hb' hl => hF b hb'.1 hb'.2)) (fun b hb' => ⟨hb'.1, Nat.lt_of_lt_of_le hb'.2 hs⟩)
  · by_cases hkk : k = key
    · rw [if_pos hkk] at hk; cases hk
    · rw [if_neg hkk] at hk
      simp only [if_neg hkk, hk]
      rfl
  · have old : ∀ k h' b, k ≠ key → (if k = key then some h1 else Lh k) = some h' → (hdrV h').ownBlock = some b → b < w.heap.size := fun k h' b hkk hk hb' => by
      rw [if_neg hkk] at hk
      exact ((h.row k h' hk).1 b hb').2
    have new : ∀ k h' b, k = key → (if k = key then some h1 else Lh k) = some h' → (hdrV h').ownBlock = some b → base ≤ b := fun k h' b hkk hk hb' => by
      rw [if_pos hkk] at hk
      cases hk
      exact hR.1 b hb'
    by_cases hkk : k = key <;> by_cases hkk' : k' = key
    · rw [hkk, hkk']
    · have h1' := new k h' b hkk hk hb1
      have h2' := old k' h'' b hkk' hk' hb2
      omega
    · have h1' := new k' h'' b hkk' hk' hb2
      have h2' := old k h' b hkk hk hb1
      omega
    · rw [if_neg hkk] at hk
      rw [if_neg hkk'] at hk'
      exact h.apart k k' h' h'' b hk hk' hb1 hb2
theorem isSome_none {α : Type} {o : Option α} (h : ¬ o.isSome = true) : o = none := by cases o; rfl; exact absurd rfl h
set_option maxRecDepth 100000 in
set_option maxHeartbeats 8000000 in
theorem vault_twin (g m : Nat) (S : Nat → Prop) (H : List HE) (w : World) (h : VaultRep w S g H m) (hHl : H.length ≤ 1000000000) :
    Calls Try.prog 7 #[.pointer (some ⟨g, 0, none⟩)] w fun r w' => ∃ g' S', r = .returned (.pointer (some ⟨g', 0, none⟩)) ∧ VaultRep w' S' g' H m ∧ (∀ b, S' b → w.heap.size ≤ b) ∧ Fr (fun _ => False) w w' := by
  obtain ⟨mc, ml, F, Lh, hV⟩ := h
  have HV := Lib.hid hV
  clear hV
  go_enter Try.func7, Try.ntmps7
  go_wp2_with fail
  refine (vault_new' w).mono ?_
  rintro r w1 ⟨g', mc', ml', S0, rfl, hV0, hS0, hge, hF1⟩
  have HGE := Lib.hid hge
  have hV1 := HV.out.fr hF1 (fun _ _ h => h)
  have hF2 : Fr (fun b => b = g') w1 (w1.setCell ⟨g', 2, none⟩ (.int .i64 (m : Int))) := (Fr.refl (fun b => b = g') w1).setCell (p := ⟨g', 2, none⟩) (.inl rfl) _
  have hV2 := hV1.fr hF2 (fun b hb e => by have h1 := HV.out.lt b hb; have h2 := hge; omega)
  have hB2 := hV0.blk.set_ 2 (.int .i64 (m : Int))
  have hC2 := hV0.cells.fr hF2 (fun e => hV0.cells.ne_blk hV0.blk e.symm)
  have hL2 := hV0.logs.fr hF2 (fun e => hV0.logs.ne_blk hV0.blk e.symm)
  obtain ⟨W3, cnt0, hrange, hit0, hFr3, hsz3⟩ := hV2.cells.range (t := 59) rfl
  have hsz : (w1.setCell ⟨g', 2, none⟩ (.int .i64 (m : Int))).heap.size = w1.heap.size := by simp [World.setCell]
  rw [hsz] at hrange hit0
  have v2 := hV1.blk.cell 2
  have v0 := hV2.blk.cell 0
  have x2 := hV0.blk.cell 2
  have xf := hV0.blk.frozen
  simp only [List.getElem?_toArray, List.getElem?_cons_zero, List.getElem?_cons_succ] at v0 v2 x2
  have HV3 := Lib.hid (hV2.fr hFr3 (fun _ _ h => h))
  have HB3 := Lib.hid (show Blk W3 g' 62 #[.map (some mc'), .map (some ml'), .int .i64 (m : Int)] from hB2.fr hFr3 (fun h => h))
  have HC3 := Lib.hid (hC2.fr hFr3 (fun h => h))
  have HL3 := Lib.hid (hL2.fr hFr3 (fun h => h))
  have HI3 := Lib.hid hit0
  have HF3 := Lib.hid ((hF1.trans' hF2 (fun i hi e => by have := hge; omega)).trans hFr3)
  have HMC := Lib.hid hV0.cells.lt
  have HML := Lib.hid hV0.logs.lt
  have HGL := Lib.hid hV0.blk.lt
  have HNE := Lib.hid hV0.ne
  have HS0 := Lib.hid hS0
  have HSZ := Lib.hid hF1.size
  obtain ⟨q, hq⟩ : ∃ q, q = w1.heap.size := ⟨_, rfl⟩
  rw [← hq] at hrange HI3 HMC HML HGL
  have HQ := Lib.hid hq
  clear hV0 hS0 hge hF1 hV1 hF2 hV2 hB2 hC2 hL2 hit0 hFr3 hsz3 hsz hq
  go_wp2_with fail
  go_loopw [4] (fun _ wr => ∃ (left : ByteArray → Prop) (cnt : Nat) (F1 : ByteArray → Option CellD), MapIt strE cellV wr mc q F left cnt ∧ MapIn strE cellV wr mc' F1 ∧ (∀ s, left s → F1 s = none) ∧ (∀ s, ¬ left s → F1 s = F s) ∧ Blk wr g' 62 #[.map (some mc'), .map (some ml'), .int .i64 (m : Int)] ∧ MapIn strE hdrV wr ml' (fun _ => none) ∧ VaultAt wr S g mc ml F Lh H m ∧ Fr (fun _ => False) w wr) (fun _ wr => wr.rangeLeft mc q)
  case atStart => exact ⟨_, _, _, HI3.out, HC3.out, fun _ _ => rfl, fun s hn => (isSome_none hn).symm, HB3.out, HL3.out, HV3.out, HF3.out⟩
  case round =>
    clear HV3 HB3 HC3 HL3 HI3 HF3
    obtain ⟨left, cnt, F1, hit, hM, hf1, hf2, hB, hL, hVr, hG⟩ := hrel
    have HIT := Lib.hid hit
    have HM := Lib.hid hM
    have HF1 := Lib.hid hf1
    have HF2 := Lib.hid hf2
    have HB := Lib.hid hB
    have HL := Lib.hid hL
    have HVr := Lib.hid hVr
    have HG := Lib.hid hG
    clear hM hf1 hf2 hB hL hVr hG
    rcases hit.next 0 with ⟨hno, hnext⟩ | ⟨a, c9, w2, cnt1, hok, hla, hfa, hnext, hit1, hlt1, hFn, hszn, hen⟩
    · have hFF : F1 = F := funext fun s => HF2.out s (hno s)
      have HMF := Lib.hid (show MapIn strE cellV wr mc' F from by rw [← hFF]; exact HM.out)
      obtain ⟨W5, cnt5, hrange5, hit5, hFr5, hsz5⟩ := HVr.out.logs.range (t := 60) rfl
      have v1 := HVr.out.blk.cell 1
      simp only [List.getElem?_toArray, List.getElem?_cons_zero, List.getElem?_cons_succ] at v1
      have HV5 := Lib.hid (HVr.out.fr hFr5 (fun _ _ h => h))
      have HB5 := Lib.hid (HB.out.fr hFr5 (fun h => h))
      have HM5 := Lib.hid (HMF.out.fr hFr5 (fun h => h))
      have HL5 := Lib.hid (HL.out.fr hFr5 (fun h => h))
      have HI5 := Lib.hid hit5
      have HG5 := Lib.hid (HG.out.trans hFr5)
      obtain ⟨q2, hq2⟩ : ∃ q2, q2 = wr.heap.size := ⟨_, rfl⟩
      rw [← hq2] at hrange5 HI5 hsz5
      have HQ2 := Lib.hid (show q < q2 ∧ w1.heap.size ≤ q2 from by have h1 := hit.lt; have h2 := HQ.out; omega)
      have HS5 := Lib.hid hsz5
      clear hit hno hFF hit5 hFr5 HM HF1 HF2 HMF HL HVr HG HB hsz5 hq2
      go_wp2_with fail
      go_loopw [6] (fun _ wr => ∃ (left : ByteArray → Prop) (cnt : Nat) (L1 : ByteArray → Option Hdr), MapIt strE hdrV wr ml q2 Lh left cnt ∧ MapIn strE hdrV wr ml' L1 ∧ LogsAt wr (fun b => q2 + 1 ≤ b ∧ b < wr.heap.size) L1 (fun s => if (L1 s).isSome = true then logOf H s else []) ∧ (∀ s, (L1 s).isSome = true ↔ (Lh s).isSome = true ∧ ¬ left s) ∧ Blk wr g' 62 #[.map (some mc'), .map (some ml'), .int .i64 (m : Int)] ∧ MapIn strE cellV wr mc' F ∧ VaultAt wr S g mc ml F Lh H m ∧ q2 + 1 ≤ wr.heap.size ∧ Fr (fun _ => False) w wr) (fun _ wr => wr.rangeLeft ml q2)
      case atStart => exact ⟨_, _, _, HI5.out, HL5.out, ⟨fun k h hk => (by cases hk), fun k _ => rfl, fun k k' h h' b hk => (by cases hk)⟩, fun s => ⟨fun h => (by cases h), fun h => absurd h.1 h.2⟩, HB5.out, HM5.out, HV5.out, by rw [HS5.out]; exact Nat.le_refl _, HG5.out⟩
      case round =>
        clear HV5 HB5 HM5 HL5 HI5 HG5
        obtain ⟨left, cnt, L1, hit, hM, hlg, hls, hB, hC, hVr, hqs, hG⟩ := hrel
        have HIT := Lib.hid hit
        have HM := Lib.hid hM
        have HLG := Lib.hid hlg
        have HLS := Lib.hid hls
        have HB := Lib.hid hB
        have HC := Lib.hid hC
        have HVr := Lib.hid hVr
        have HQS := Lib.hid hqs
        have HG := Lib.hid hG
        clear hM hlg hls hB hC hVr hqs hG
        rcases hit.next 0 with ⟨hno, hnext⟩ | ⟨a, h9, w2, cnt1, hok, hla, hfa, hnext, hit1, hlt1, hFn, hszn, hen⟩
        · have HNO := Lib.hid hno
          clear hit hno
          go_wp2_with fail
          go_ret
          have h2 := HGE.out
          have h3 := HQ2.out
          have h4 := HQ.out
          have h5 := HSZ.out
          have hG' : (fun s => if (L1 s).isSome = true then logOf H s else []) = logOf H := funext fun s => by
            by_cases hs : (L1 s).isSome = true
            · rw [if_pos hs]
            · rw [if_neg hs]
              have hn : (Lh s) = none := isSome_none (fun h => hs ((HLS.out s).2 ⟨h, HNO.out s⟩))
              exact (HVr.out.log.none_ s hn).symm
          have hlg := HLG.out
          rw [hG'] at hlg
          refine ⟨g', fun b => S0 b ∨ (q2 + 1 ≤ b ∧ b < wr.heap.size), rfl, ⟨mc', ml', F, L1, HB.out, ⟨.inl ((HS0.out _).2 (.inr (.inr rfl))), .inl ((HS0.out _).2 (.inl rfl)), .inl ((HS0.out _).2 (.inr (.inl rfl)))⟩, HNE.out, HC.out, HVr.out.cell, HM.out, ⟨fun k h hk => Kd.R_mono (hlg.row k h hk) (fun b hb => .inr hb), hlg.none_, hlg.apart⟩, fun k hk => ?_⟩, fun b hb => ?_, HG.out⟩
          · rcases hk with hk | hk
            · have h7 := HMC.out
              have h8 := HML.out
              have h9 := HGL.out
              have h10 := HQS.out
              rcases (HS0.out k).1 hk with rfl | rfl | rfl <;> omega
            · exact hk.2
          · rcases hb with hb | hb
            · rcases (HS0.out b).1 hb with rfl | rfl | rfl <;> omega
            · omega
        · obtain ⟨A9, n9, c9⟩ := h9
          have hFn' : Fr (fun _ => False) w w2 := HG.out.trans' hFn (fun i hi e => by have h1 := HQ2.out; have h2 := HSZ.out; omega)
          have h2 := HGE.out
          have h3 := HQ2.out
          have h4 := HQ.out
          have h5 := HSZ.out
          have h6 := HMC.out
          have h7 := HML.out
          have h8 := HGL.out
          have hVn := HVr.out.fr hFn (fun b hb e => by have h1 := HV.out.lt b hb; omega)
          have hBn := HB.out.fr hFn (by omega)
          have hMn := HM.out.fr hFn (by omega)
          have hCn := HC.out.fr hFn (by omega)
          have hRn := hVn.log.row a _ hfa
          obtain ⟨A9', c9', he9⟩ := Kd.R_slice hRn
          have hn9 : n9 = (logOf H a).length := by injection he9
          subst hn9
          have hCx := (Kd.R_reads' hRn).2.2
          have hbk : ∀ b, q2 + 1 ≤ b → b < wr.heap.size → w2.heap[b]? = wr.heap[b]? := fun b hb hl => hFn.block b hl (by omega)
          have hszw : wr.heap.size = w2.heap.size := hszn.symm
          have HBK := Lib.hid hbk
          have HSW := Lib.hid hszw
          have HVn := Lib.hid hVn
          have HBn := Lib.hid hBn
          have HMn := Lib.hid hMn
          have HCn := Lib.hid hCn
          have HCx := Lib.hid hCx
          have HFn := Lib.hid hFn'
          have HI1 := Lib.hid hit1
          have HLA := Lib.hid hla
          have HFA := Lib.hid hfa
          have HLT := Lib.hid hlt1
          have HOK := Lib.hid hok
          have hll := logOf_len H a
          have HLL := Lib.hid hll
          replace hen : (Instr.entry (.pointer (some ⟨q2, 0, none⟩))).run Try.prog w2 = .ok (.tuple #[.string a, .slice A9 (logOf H a).length c9]) w2 := hen
          replace hnext : (Instr.next (.pointer (some ⟨q2, 0, none⟩)) false 0).run Try.prog wr = .ok (.tuple #[.bool true, .string a, .slice A9 (logOf H a).length c9]) w2 := hnext
          clear hFn hFn' hVn hBn hMn hCn hRn he9 hCx hbk hszw hit hit1 hla hfa hlt1 hszn h2 h3 h4 h5 h6 h7 h8 hll
          have hBd := HBn.out.drew
          obtain ⟨St, hSt⟩ : ∃ St : World → Prop, St = Fr (fun _ => False) w2.drew := ⟨_, rfl⟩
          have HT := Lib.hid (show ∀ w', Fr (fun _ => False) w2.drew w' → At St w' from fun w' h => by unfold At; rw [hSt]; exact h)
          have lift : ∀ (q : Addr) (u : Value), w2.drew.cell? q = some u → ∀ w', At St w' → w'.cell? q = some u := fun q u hq w' h => by replace h := h.out; rw [hSt] at h; exact h.cell hq (fun h => h)
          have l1 := lift ⟨g', 1, none⟩ _ (hBd.cell 1)
          have hT0 := HT.out w2.drew (Fr.refl _ _)
          clear lift hSt hBd
          go_wp2_with fail
          refine rt_start [8] (At St) 9 (by kernel_rfl) rfl ?_
          refine rt_free 0 (v := ?_) rfl (by kernel_rfl) (by kernel_rfl) (by kernel_rfl) (by kernel_rfl) (fun _ _ _ h => h) (by rfl) (fun _ => by first | assumption | exact HS0 _ rfl | exact HT.out _ (by repeat (first | exact Fr.refl _ _ | apply Fr.drew | refine Fr.alloc ?_ _))) ?_ ?_
          rotate_left 1
          · intro w; go_simp <;> with_reducible rfl
          try simp only [Act.put, List.setIfInBounds_toArray, List.set_cons_zero, List.set_cons_succ]
          refine rt_free 1 (v := ?_) rfl (by kernel_rfl) (by kernel_rfl) (by kernel_rfl) (by kernel_rfl) (fun _ _ _ h => h) (by rfl) (fun _ => by first | assumption | exact HS0 _ rfl | exact HT.out _ (by repeat (first | exact Fr.refl _ _ | apply Fr.drew | refine Fr.alloc ?_ _))) ?_ ?_
          rotate_left 1
          · intro w; go_simp <;> with_reducible rfl
          try simp only [Act.put, List.setIfInBounds_toArray, List.set_cons_zero, List.set_cons_succ]
          refine rt_free 2 (v := ?_) rfl (by kernel_rfl) (by kernel_rfl) (by kernel_rfl) (by kernel_rfl) (fun _ _ _ h => h) (by rfl) (fun _ => by first | assumption | exact HS0 _ rfl | exact HT.out _ (by repeat (first | exact Fr.refl _ _ | apply Fr.drew | refine Fr.alloc ?_ _))) ?_ ?_
          rotate_left 1
          · intro w; go_simp <;> with_reducible rfl
          try simp only [Act.put, List.setIfInBounds_toArray, List.set_cons_zero, List.set_cons_succ]
          refine rt_take 3 (v := ?_) rfl (by kernel_rfl) (by kernel_rfl) (by kernel_rfl) (by kernel_rfl) (fun _ _ _ h => h) (by rfl) (by first | assumption | exact HS0 _ rfl | exact HT.out _ (by repeat (first | exact Fr.refl _ _ | apply Fr.drew | refine Fr.alloc ?_ _))) ?_ ?_
          rotate_left 1
          · intro w hSw; go_simp <;> with_reducible rfl
          try simp only [Act.put, List.setIfInBounds_toArray, List.set_cons_zero, List.set_cons_succ]
          refine rt_free 4 (v := ?_) rfl (by kernel_rfl) (by kernel_rfl) (by kernel_rfl) (by kernel_rfl) (fun _ _ _ h => h) (by rfl) (fun _ => by first | assumption | exact HS0 _ rfl | exact HT.out _ (by repeat (first | exact Fr.refl _ _ | apply Fr.drew | refine Fr.alloc ?_ _))) ?_ ?_
          rotate_left 1
          · intro w; go_simp <;> with_reducible rfl
          try simp only [Act.put, List.setIfInBounds_toArray, List.set_cons_zero, List.set_cons_succ]
          refine rt_free 6 (v := ?_) rfl (by kernel_rfl) (by kernel_rfl) (by kernel_rfl) (by kernel_rfl) (fun _ _ _ h => h) (by rfl) (fun _ => by first | assumption | exact HS0 _ rfl | exact HT.out _ (by repeat (first | exact Fr.refl _ _ | apply Fr.drew | refine Fr.alloc ?_ _))) ?_ ?_
          rotate_left 1
          · intro w; go_simp <;> with_reducible rfl
          try simp only [Act.put, List.setIfInBounds_toArray, List.set_cons_zero, List.set_cons_succ]
          refine rt_one 5 rfl (by kernel_rfl) (fun K hK => ?_)
          go_simp
          refine hK.out (At St) _ _ (fun _ h => h) (fun _ => by (exact HT.out _ ((Fr.refl _ _).alloc _))) ?_
          clear hK K
          try simp only [Act.put, List.setIfInBounds_toArray, List.set_cons_zero, List.set_cons_succ]
          refine rt_one 7 rfl (by kernel_rfl) (fun K hK => ?_)
          obtain ⟨A1, c1, w8, hr, hR1, hg1⟩ := app_flat (P := Try.prog) wrFlat (xs := logOf H a) (n := (logOf H a).length) (c := c9) (A := A9) 57 57 _ 24 Try.underlying57 info_wr rfl (by decide) (by decide) (R_empty wrK 67 w2.drew) (Kd.C_below HCx.out (((Fr.refl (fun _ => False) w2).drew.alloc _).below (fun _ _ h => h))) (fun k hk => by simp only [World.size_alloc] at hk; omega) (by simp) (by have := HLL.out; omega)
          refine step_builtin2 rfl rfl rfl rfl (bi_append hr) ?_
          have hF8 : Fr (fun _ => False) w2 w8 := (((Fr.refl (fun _ => False) w2).drew.alloc (.cells #[] 67)).trans' (Fr.of_grown hg1) (fun i hi h => by have hd : w2.drew.heap.size = w2.heap.size := rfl; have h := (Option.some.inj (show some i = some w2.drew.heap.size from h)); omega))
          have hF8' : Fr (fun _ => False) w2.drew w8 := (((Fr.refl (fun _ => False) w2.drew).alloc (.cells #[] 67)).trans' (Fr.of_grown hg1) (fun i hi h => by have hd : w2.drew.heap.size = w2.heap.size := rfl; have h := (Option.some.inj (show some i = some w2.drew.heap.size from h)); omega))
          have hT8 := HT.out _ hF8'
          obtain ⟨W9, hrun9, hM9, hF9, hs9⟩ := (HMn.out.fr hF8 (fun h => h)).update (t := 60) (et := 57) Try.underlying60 (a := a) HOK.out ((A1, (logOf H a).length, c1) : Hdr)
          have hrun9' : (Instr.mapUpdate 60 (.map (some ml')) (.string a) (.slice A1 (logOf H a).length c1)).run Try.prog w8 = .ok () W9 := hrun9
          clear hrun9
          refine hK.out (At St) _ _ (fun _ h => h) (fun _ => by (assumption)) ?_
          clear hK K
          try simp only [Act.put, List.setIfInBounds_toArray, List.set_cons_zero, List.set_cons_succ]
          refine rt_one 8 rfl (by kernel_rfl) (fun K hK => ?_)
          go_simp
          refine hK.out (At St) _ _ (fun _ h => h) (late_abs (by kernel_rfl)) ?_
          clear hK K
          try simp only [Act.put, List.setIfInBounds_toArray, List.set_cons_zero, List.set_cons_succ]
          refine rt_done (by kernel_rfl) ?_
          have HF8 := Lib.hid hF8
          have HF9 := Lib.hid hF9
          have HM9 := Lib.hid hM9
          have HR1 := Lib.hid hR1
          have HS9 := Lib.hid hs9
          clear l1 hT0 hT8 hrun9' hF8 hF8' hM9 hF9 hR1 hg1 hr hs9
          go_wp2_with fail
          go_roundw
          case rel =>
            have h2 := HGE.out
            have h3 := HQ2.out
            have h4 := HQ.out
            have h5 := HSZ.out
            have h6 := HMC.out
            have h7 := HML.out
            have h8 := HGL.out
            have h9 := HQS.out
            have h10 := HSW.out
            have h11 := HF8.out.size
            have h12 := HS9.out
            have hd : w2.drew.heap.size = w2.heap.size := rfl
            have hFw : Fr (fun b => b = ml') w2 W9 := (HF8.out.mono (S' := fun b => b = ml') (fun _ _ h => h.elim)).trans HF9.out
            refine ⟨_, _, _, HI1.out.fr hFw (fun e => ?_) (by omega), HM9.out, ?_, fun s => ?_, HBn.out.fr hFw (fun e => ?_), HCn.out.fr hFw (fun e => ?_), HVn.out.fr hFw (fun b hb e => ?_), by omega, (HFn.out.trans HF8.out).trans' HF9.out (fun i hi e => by omega)⟩
            · have h1 := HV.out.lt ml HV.out.own.2.2; omega
            · refine LogsAt.put (base := w2.heap.size) HLG.out (fun b hb hl => ?_) (by omega) (by omega) (by omega) ?_
              · rw [HF9.out.block b (by omega) (by omega), HF8.out.block b (by omega) (fun h => h)]
                exact HBK.out b hb hl
              · refine Kd.R_step HR1.out (fun b hb hl => HF9.out.block b hl (fun e => ?_))
                have h1 : w2.heap.size ≤ b := hb
                omega
            · by_cases hs : s = a
              · subst hs
                simp only [if_pos, Option.isSome_some, true_iff]
                exact ⟨by rw [HFA.out]; rfl, fun h => h.2 rfl⟩
              · rw [if_neg hs, HLS.out s]
                exact ⟨fun h => ⟨h.1, fun hl => h.2 hl.1⟩, fun h => ⟨h.1, fun hl => h.2 ⟨hl, hs⟩⟩⟩
            · exact (HMn.out.ne_blk HBn.out) e
            · exact HNE.out e
            · have h1 := HV.out.lt b hb; omega
          case measure =>
            have h4 := HQ.out
            have h6 := HMC.out
            have h7 := HML.out
            have h3 := HQ2.out
            have h2 := HGE.out
            have hFw : Fr (fun b => b = ml') w2 W9 := (HF8.out.mono (S' := fun b => b = ml') (fun _ _ h => h.elim)).trans HF9.out
            rw [(HI1.out.fr hFw (fun e => by have h1 := HV.out.lt ml HV.out.own.2.2; omega) (by omega)).left_eq, HIT.out.left_eq]
            exact HLT.out
    · obtain ⟨f, y⟩ := c9
      have h2 := HGE.out
      have h4 := HQ.out
      have h5 := HSZ.out
      have h6 := HMC.out
      have h7 := HML.out
      have h8 := HGL.out
      have hFn' : Fr (fun _ => False) w w2 := HG.out.trans' hFn (fun i hi e => by omega)
      have hA4 : Fr (fun _ => False) w2 (w2.alloc (.cells #[.bool f, .float .f64 y] 53)) := (Fr.refl _ _).alloc _
      have hVn := (HVr.out.fr hFn (fun b hb e => by have h1 := HV.out.lt b hb; omega)).fr hA4 (fun _ _ h => h)
      have hBn := (HB.out.fr hFn (by omega)).fr hA4 (fun h => h)
      have hMn := (HM.out.fr hFn (by omega)).fr hA4 (fun h => h)
      have hLn := (HL.out.fr hFn (by omega)).fr hA4 (fun h => h)
      have hXn := Blk.new w2 53 #[.bool f, .float .f64 y]
      have hIn := hit1.fr hA4 (fun h => h) (fun h => h)
      have hxq : q < w2.heap.size := hit1.lt
      obtain ⟨W4, hW4⟩ : ∃ W, W = w2.alloc (.cells #[.bool f, .float .f64 y] 53) := ⟨_, rfl⟩
      have HFn := Lib.hid (hFn'.trans hA4)
      rw [← hW4] at hVn hBn hMn hLn hXn hIn HFn
      have HVn := Lib.hid hVn
      have HBn := Lib.hid hBn
      have HMn := Lib.hid hMn
      have HLn := Lib.hid hLn
      have HXn := Lib.hid hXn
      have HIn := Lib.hid hIn
      have HLA := Lib.hid hla
      have HFA := Lib.hid hfa
      have HLT := Lib.hid hlt1
      obtain ⟨W6, hrun, hM6, hF6, hs6⟩ := (hMn.drew).update (t := 59) (et := 53) Try.underlying59 (a := a) hok (f, y)
      have hrun' : (Instr.mapUpdate 59 (.map (some mc')) (.string a) (.agg #[.bool f, .float .f64 y])).run Try.prog W4.drew = .ok () W6 := hrun
      replace hen : (Instr.entry (.pointer (some ⟨q, 0, none⟩))).run Try.prog w2 = .ok (.tuple #[.string a, .agg #[.bool f, .float .f64 y]]) w2 := hen
      replace hnext : (Instr.next (.pointer (some ⟨q, 0, none⟩)) false 0).run Try.prog wr = .ok (.tuple #[.bool true, .string a, .agg #[.bool f, .float .f64 y]]) w2 := hnext
      have HM6 := Lib.hid hM6
      have HF6 := Lib.hid hF6
      have hBd := hBn.drew
      have hXd := hXn.drew
      obtain ⟨St, hSt⟩ : ∃ St : World → Prop, St = Fr (fun _ => False) W4.drew := ⟨_, rfl⟩
      have HT := Lib.hid (show ∀ w', Fr (fun _ => False) W4.drew w' → At St w' from fun w' h => by unfold At; rw [hSt]; exact h)
      have lift : ∀ (q : Addr) (u : Value), W4.drew.cell? q = some u → ∀ w', At St w' → w'.cell? q = some u := fun q u hq w' h => by replace h := h.out; rw [hSt] at h; exact h.cell hq (fun h => h)
      have l0 := lift ⟨g', 0, none⟩ _ (hBd.cell 0)
      have l4 := lift ⟨w2.heap.size, 0, none⟩ _ (hXd.cell 0)
      have l5 := lift ⟨w2.heap.size, 1, none⟩ _ (hXd.cell 1)
      have hT0 := HT.out W4.drew (Fr.refl _ _)
      have HW4 := Lib.hid hW4
      clear lift hSt hBd hXd hFn hFn' hA4 hVn hBn hMn hLn hXn hIn hit hit1 hla hfa hlt1 hszn h2 h4 h5 h6 h7 h8 hrun hM6 hF6 hs6 hW4 hxq
      go_wp2_with fail
      rw [← HW4.out]
      refine rt_start [6] (At St) 7 (by kernel_rfl) rfl ?_
      refine rt_free 0 (v := ?_) rfl (by kernel_rfl) (by kernel_rfl) (by kernel_rfl) (by kernel_rfl) (fun _ _ _ h => h) (by rfl) (fun _ => by first | assumption | exact HS0 _ rfl | exact HT.out _ (by repeat (first | exact Fr.refl _ _ | apply Fr.drew | refine Fr.alloc ?_ _))) ?_ ?_
      rotate_left 1
      · intro w; go_simp <;> with_reducible rfl
      try simp only [Act.put, List.setIfInBounds_toArray, List.set_cons_zero, List.set_cons_succ]
      refine rt_free 1 (v := ?_) rfl (by kernel_rfl) (by kernel_rfl) (by kernel_rfl) (by kernel_rfl) (fun _ _ _ h => h) (by rfl) (fun _ => by first | assumption | exact HS0 _ rfl | exact HT.out _ (by repeat (first | exact Fr.refl _ _ | apply Fr.drew | refine Fr.alloc ?_ _))) ?_ ?_
      rotate_left 1
      · intro w; go_simp <;> with_reducible rfl
      try simp only [Act.put, List.setIfInBounds_toArray, List.set_cons_zero, List.set_cons_succ]
      refine rt_free 2 (v := ?_) rfl (by kernel_rfl) (by kernel_rfl) (by kernel_rfl) (by kernel_rfl) (fun _ _ _ h => h) (by rfl) (fun _ => by first | assumption | exact HS0 _ rfl | exact HT.out _ (by repeat (first | exact Fr.refl _ _ | apply Fr.drew | refine Fr.alloc ?_ _))) ?_ ?_
      rotate_left 1
      · intro w; go_simp <;> with_reducible rfl
      try simp only [Act.put, List.setIfInBounds_toArray, List.set_cons_zero, List.set_cons_succ]
      refine rt_take 3 (v := ?_) rfl (by kernel_rfl) (by kernel_rfl) (by kernel_rfl) (by kernel_rfl) (fun _ _ _ h => h) (by rfl) (by first | assumption | exact HS0 _ rfl | exact HT.out _ (by repeat (first | exact Fr.refl _ _ | apply Fr.drew | refine Fr.alloc ?_ _))) ?_ ?_
      rotate_left 1
      · intro w hSw; go_simp <;> with_reducible rfl
      try simp only [Act.put, List.setIfInBounds_toArray, List.set_cons_zero, List.set_cons_succ]
      refine rt_free 4 (v := ?_) rfl (by kernel_rfl) (by kernel_rfl) (by kernel_rfl) (by kernel_rfl) (fun _ _ _ h => h) (by rfl) (fun _ => by first | assumption | exact HS0 _ rfl | exact HT.out _ (by repeat (first | exact Fr.refl _ _ | apply Fr.drew | refine Fr.alloc ?_ _))) ?_ ?_
      rotate_left 1
      · intro w; go_simp <;> with_reducible rfl
      try simp only [Act.put, List.setIfInBounds_toArray, List.set_cons_zero, List.set_cons_succ]
      refine rt_take 5 (v := ?_) rfl (by kernel_rfl) (by kernel_rfl) (by kernel_rfl) (by kernel_rfl) (fun _ _ _ h => h) (by rfl) (by first | assumption | exact HS0 _ rfl | exact HT.out _ (by repeat (first | exact Fr.refl _ _ | apply Fr.drew | refine Fr.alloc ?_ _))) ?_ ?_
      rotate_left 1
      · intro w hSw; go_simp <;> with_reducible rfl
      try simp only [Act.put, List.setIfInBounds_toArray, List.set_cons_zero, List.set_cons_succ]
      refine rt_one 6 rfl (by kernel_rfl) (fun K hK => ?_)
      go_simp
      refine hK.out (At St) _ _ (fun _ h => h) (late_abs (by kernel_rfl)) ?_
      clear hK K
      try simp only [Act.put, List.setIfInBounds_toArray, List.set_cons_zero, List.set_cons_succ]
      refine rt_done (by kernel_rfl) ?_
      clear l0 l4 l5 hT0 hrun'
      go_wp2_with fail
      go_roundw
      case rel =>
        have h4 := HQ.out
        have h6 := HMC.out
        have h7 := HML.out
        have h8 := HGL.out
        have h2 := HGE.out
        have hFw : Fr (fun b => b = mc') W4 W6 := (Fr.refl _ W4).drew.trans HF6.out
        refine ⟨_, _, _, HIn.out.fr hFw (fun e => ?_) (by omega), HM6.out, fun s hs => ?_, fun s hs => ?_, HBn.out.fr hFw (fun e => ?_), HLn.out.fr hFw (fun e => ?_), HVn.out.fr hFw (fun b hb e => ?_), HFn.out.trans' hFw (fun i hi e => by omega)⟩
        · have h1 := HV.out.lt mc HV.out.own.2.1; omega
        · rw [if_neg hs.2]
          exact HF1.out s hs.1
        · by_cases h : s = a
          · rw [if_pos h, h, HFA.out]
          · rw [if_neg h]
            exact HF2.out s (fun hl => hs ⟨hl, h⟩)
        · exact (HMn.out.ne_blk HBn.out) e
        · exact HNE.out e.symm
        · have h1 := HV.out.lt b hb; omega
      case measure =>
        have h4 := HQ.out
        have h6 := HMC.out
        have h2 := HGE.out
        have hFw : Fr (fun b => b = mc') W4 W6 := (Fr.refl _ W4).drew.trans HF6.out
        rw [(HIn.out.fr hFw (fun e => by have h1 := HV.out.lt mc HV.out.own.2.1; omega) (by omega)).left_eq, HIT.out.left_eq]
        exact HLT.out
end Go.Proofs.Ytepfhcimmbkilaa
