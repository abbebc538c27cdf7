/- Texts of VaultApplies, merged (11 of 33): Keys7, KeysU. -/
import Derived.Test.YtepfhcimmbkilaaGVaultApplies8
import Derived.Deep.QuietTactic
import Derived.BigQuiet
import Derived.Sort.Walk0
set_option linter.unusedVariables false
set_option linter.unusedSimpArgs false
/- Keys of commands, by the reference: each once, rising. -/
namespace Go.Proofs.Ytepfhcimmbkilaa
open Go.RowKit
open Go.Proofs.YtepfhcimmbkilaaW.PrintWords

theorem Flat.C_mv {α : Type} {d : Kd α} {enc : α → List Value} (hf : Flat d enc) {w w' : World} {A : Option Addr} {n : Nat} {L : List α} (h : d.C w A n L) (hb : 0 < n → ∀ ad, A = some ad → w'.heap[ad.block]? = w.heap[ad.block]?) : d.C w' A n L := by
  refine ⟨h.1, h.2.1, fun hp => ?_⟩
  obtain ⟨ad, hA, hc⟩ := h.2.2 hp
  refine ⟨ad, hA, ?_⟩
  intro j p hj
  obtain ⟨c, hs, hr, hcell⟩ := hc j p hj
  rw [hf.K hr] at hcell
  exact ⟨enc p, hf.len p, d.K_of_M (hf.M w' 0 (fun _ => True) p), fun i u hu => (World.cell?_of_block (by rw [add_block]; exact hb hp ad hA)).trans (hcell i u hu)⟩
abbrev strK : Kd ByteArray := Kd.string
abbrev strCells (s : ByteArray) : List Value := [.string s]
theorem strK_K {w : World} {a : ByteArray} {c : List Value} (h : strK.K w a c) : c = [.string a] := h
theorem strFlat : Flat strK strCells := ⟨fun _ => rfl, fun h => strK_K h, fun _ _ _ _ => rfl⟩
theorem info_str : (Try.prog.info? 9).map (fun i => (i.zero, i.size, i.bytes)) = some (some (.string ByteArray.empty), strK.sz, 16) := by kernel_rfl
def stx (L : List ByteArray) (i : Nat) : ByteArray := L.getD i ByteArray.empty
theorem stx_eq {L : List ByteArray} {i : Nat} (h : i < L.length) : stx L i = L[i] := by unfold stx; rw [List.getD_eq_getElem?_getD, List.getElem?_eq_getElem h]; rfl
theorem stx_mem {L : List ByteArray} {i : Nat} (h : i < L.length) : stx L i ∈ L := by rw [stx_eq h]; exact List.getElem_mem h
theorem take_stx {L : List ByteArray} {k : Nat} (h : k < L.length) : L.take (k + 1) = L.take k ++ [stx L k] := by rw [List.take_succ_eq_append_getElem h, stx_eq h]
theorem strs_at {w : World} {A : Option Addr} {n : Nat} {L : List ByteArray} (h : strK.C w A n L) {i : Nat} (hi : i < n) : ∃ b off, A = some ⟨b, off, none⟩ ∧ w.cell? ⟨b, off + i, none⟩ = some (.string (stx L i)) := by
  obtain ⟨b, off, c, hi', hA, hc, hk, hcell⟩ := C_at h (by decide) hi
  rw [← stx_eq hi'] at hk
  have hk := strK_K hk
  subst hk
  have hs : strK.sz = 1 := rfl
  rw [hs, Nat.mul_one] at hcell
  exact ⟨b, off, hA, hcell 0 _ rfl⟩
def ltS (a b : ByteArray) : Bool := Op.bytesLess a.toList b.toList
/-- One step of putting x into a row: whether it is in, and what there is. -/
def insStep (x : ByteArray) (s : Bool × List ByteArray) (y : ByteArray) : Bool × List ByteArray := if (!s.1 && ltS x y) = true then (true, s.2 ++ [x] ++ [y]) else (s.1, s.2 ++ [y])
def insRun (x : ByteArray) (out : List ByteArray) : Bool × List ByteArray := out.foldl (insStep x) (false, [])
def insL (x : ByteArray) (out : List ByteArray) : List ByteArray := if (insRun x out).1 = true then (insRun x out).2 else (insRun x out).2 ++ [x]
noncomputable def keyStep (out : List ByteArray) (c : Cmd) : List ByteArray := bif cdec (c.2.1 ∈ out) then out else insL c.2.1 out
noncomputable def keysR (L : List Cmd) : List ByteArray := L.foldl keyStep []
theorem insRun_snoc (x : ByteArray) (out : List ByteArray) (y : ByteArray) : insRun x (out ++ [y]) = insStep x (insRun x out) y := by unfold insRun; rw [List.foldl_append]; rfl
theorem insRun_inv (x : ByteArray) (out : List ByteArray) : ((insRun x out).1 = false → (insRun x out).2 = out) ∧ ((insRun x out).1 = true → ∀ s, s ∈ (insRun x out).2 ↔ s = x ∨ s ∈ out) ∧ (insRun x out).2.length ≤ out.length + 1 := by
  have key : ∀ (k : Nat) (out : List ByteArray), out.length = k → ((insRun x out).1 = false → (insRun x out).2 = out) ∧ ((insRun x out).1 = true → ∀ s, s ∈ (insRun x out).2 ↔ s = x ∨ s ∈ out) ∧ (insRun x out).2.length ≤ out.length + (if (insRun x out).1 = true then 1 else 0) := by
    intro k
    induction k with
    | zero =>
      intro out h
      rw [List.eq_nil_of_length_eq_zero h]
      exact ⟨fun _ => rfl, (fun h => by cases h), Nat.zero_le _⟩
    | succ k ih =>
      intro out h
      obtain ⟨l, y, rfl⟩ : ∃ l y, out = l ++ [y] := by
        rcases List.eq_nil_or_concat out with rfl | ⟨l, y, rfl⟩
        · simp at h
        · exact ⟨l, y, by simp⟩
      have hl : l.length = k := by simpa using h
      obtain ⟨h1, h2, h3⟩ := ih l hl
      rw [insRun_snoc]
      unfold insStep
      cases hd : (insRun x l).1
      · rw [hd] at h3
        have h4 := h1 hd
        cases ht : ltS x y
        · simp [h4]
        · simp only [h4, Bool.not_false, Bool.true_and, if_true]
          refine ⟨(fun h => by cases h), fun _ s => ?_, by simp⟩
          simp only [List.mem_append, List.mem_singleton]
          constructor
          · rintro ((h | h) | h)
            · exact .inr (.inl h)
            · exact .inl h
            · exact .inr (.inr h)
          · rintro (h | h | h)
            · exact .inl (.inr h)
            · exact .inl (.inl h)
            · exact .inr h
      · rw [hd] at h3
        have h4 := h2 hd
        simp only [Bool.not_true, Bool.false_and, Bool.false_eq_true, if_false, if_true] at h3 ⊢
        refine ⟨(fun h => by cases h), fun _ s => ?_, by simp; omega⟩
        simp only [List.mem_append, List.mem_singleton, h4 s]
        constructor
        · rintro ((h | h) | h)
          · exact .inl h
          · exact .inr (.inl h)
          · exact .inr (.inr h)
        · rintro (h | h | h)
          · exact .inl (.inl h)
          · exact .inl (.inr h)
          · exact .inr h
  obtain ⟨h1, h2, h3⟩ := key out.length out rfl
  refine ⟨h1, h2, ?_⟩
  split at h3 <;> omega
theorem insL_mem (x : ByteArray) (out : List ByteArray) (s : ByteArray) : s ∈ insL x out ↔ s = x ∨ s ∈ out := by
  obtain ⟨h1, h2, _⟩ := insRun_inv x out
  unfold insL
  cases hd : (insRun x out).1
  · rw [h1 hd]
    simp [or_comm]
  · simp only [if_true]
    exact h2 hd s
theorem insL_len (x : ByteArray) (out : List ByteArray) : (insL x out).length ≤ out.length + 1 := by
  obtain ⟨h1, _, h3⟩ := insRun_inv x out
  unfold insL
  cases hd : (insRun x out).1
  · simp [h1 hd]
  · simpa using h3
theorem keysR_snoc (L : List Cmd) (c : Cmd) : keysR (L ++ [c]) = keyStep (keysR L) c := by unfold keysR; rw [List.foldl_append]; rfl
theorem keyStep_mem (out : List ByteArray) (c : Cmd) (s : ByteArray) : s ∈ keyStep out c ↔ s = c.2.1 ∨ s ∈ out := by
  unfold keyStep
  by_cases h : c.2.1 ∈ out
  · rw [cdec_true h, cond_true]
    exact ⟨.inr, fun hs => hs.elim (fun e => e ▸ h) (fun h => h)⟩
  · rw [cdec_false h, cond_false]
    exact insL_mem _ _ _
theorem keysF_mem (L : List Cmd) : ∀ (out : List ByteArray) (s : ByteArray), s ∈ L.foldl keyStep out ↔ s ∈ out ∨ ∃ c ∈ L, c.2.1 = s := by
  induction L with
  | nil => intro out s; simp
  | cons c L ih =>
    intro out s
    rw [List.foldl_cons, ih, keyStep_mem]
    simp only [List.mem_cons, exists_eq_or_imp]
    constructor
    · rintro ((h | h) | h)
      · exact .inr (.inl h.symm)
      · exact .inl h
      · exact .inr (.inr h)
    · rintro (h | h | h)
      · exact .inl (.inr h)
      · exact .inl (.inl h.symm)
      · exact .inr h
theorem keysR_mem (L : List Cmd) (s : ByteArray) : s ∈ keysR L ↔ ∃ c ∈ L, c.2.1 = s := by
  unfold keysR
  rw [keysF_mem]
  simp
theorem keysR_take_len {L : List Cmd} : ∀ k, k ≤ L.length → (keysR (L.take k)).length ≤ k
  | 0, _ => Nat.le_refl _
  | k + 1, hk => by
    rw [List.take_succ_eq_append_getElem (by omega), keysR_snoc]
    have := keysR_take_len (L := L) k (by omega)
    unfold keyStep
    cases cdec (L[k].2.1 ∈ keysR (L.take k))
    · rw [cond_false]
      have := insL_len L[k].2.1 (keysR (L.take k))
      omega
    · rw [cond_true]; omega
set_option maxHeartbeats 1000000 in
theorem ref_in7 (A : Option Addr) (n c : Nat) (L : List ByteArray) (s : ByteArray) (w : World) (h : strK.C w A n L) (hn : n ≤ 9223372036854775807) :
    Calls Try.prog 57 #[.slice A n c, .string s] w fun r w' => r = .returned (.bool (cdec (s ∈ L))) ∧ Fr (fun _ => False) w w' := by
  have HL := Lib.hid (show L.length = n from h.1)
  have HC := Lib.hid h
  clear h
  go_enter Try.func57, Try.ntmps57
  go_wp2_with fail
  go_loopw [5] (fun i wr => ∃ k : Nat, k ≤ n ∧ i = .int .i64 k ∧ (∀ x, x < k → stx L x ≠ s) ∧ Fr (fun _ => False) w wr) (fun i _ => n - (intOf i).toNat)
  case atStart => exact ⟨0, Nat.zero_le _, rfl, fun _ h => by omega, Fr.refl _ _⟩
  case round =>
    obtain ⟨k, hk, rfl, hno, hG⟩ := hrel
    have HNO := Lib.hid hno
    have HG := Lib.hid hG
    clear hno hG
    rcases Nat.lt_or_ge k n with hlt | hge
    · obtain ⟨b, off, rfl, h0⟩ := strs_at (Kd.C_below HC.out (HG.out.below (fun _ _ h => h))) hlt
      have hse := beq_list (a := stx L k) (b := s)
      by_cases hq : stx L k = s
      · rw [cdec_true hq] at hse
        have HM := Lib.hid (show s ∈ L from by rw [← hq]; exact stx_mem (by rw [HL.out]; exact hlt))
        clear hq
        go_wp2_with fail
        go_ret
        exact ⟨ret_bool (cdec_true HM.out).symm, HG.out⟩
      · rw [cdec_false hq] at hse
        have HQ := Lib.hid hq
        clear hq
        go_wp2_with fail
        go_roundw
        case rel =>
          refine ⟨k + 1, by omega, by go_num, fun x hx => ?_, HG.out⟩
          rcases Nat.lt_or_ge x k with h | h
          · exact HNO.out x h
          · obtain rfl : x = k := by omega
            exact HQ.out
        case measure => simp [intOf]; omega
    · go_wp2_with fail
      go_ret
      refine ⟨ret_bool (cdec_false fun hm => ?_).symm, HG.out⟩
      obtain ⟨j, hj, he⟩ := List.mem_iff_getElem.1 hm
      exact HNO.out j (by have := HL.out; omega) (by rw [stx_eq hj]; exact he)
set_option maxRecDepth 100000 in
set_option maxHeartbeats 4000000 in
theorem ref_keys7 (A : Option Addr) (n c : Nat) (L : List Cmd) (w : World) (hC : cmdK.C w A n L) (hn : n ≤ 100000) :
    Calls Try.prog 38 #[.slice A n c] w fun r w' => ∃ v, r = .returned v ∧ strK.R 9 w' w.heap.size (fun b => w.heap.size ≤ b) v (keysR L) ∧ Fr (fun _ => False) w w' := by
  have HLn := Lib.hid (show L.length = n from hC.1)
  have HC := Lib.hid hC
  have HF := Lib.hid ((Fr.refl (fun _ => False) w).alloc (.cells #[] 9))
  have HR0 := Lib.hid (R_empty strK 9 w)
  clear hC
  go_enter Try.func38, Try.ntmps38
  go_wp2_with fail
  go_loopw [3, 4] (fun u i wr => ∃ k : Nat, k ≤ n ∧ i = .int .i64 k ∧ strK.R 9 wr w.heap.size (fun b => w.heap.size ≤ b) u (keysR (L.take k)) ∧ Fr (fun _ => False) w wr) (fun _ i _ => n - (intOf i).toNat)
  case atStart => exact ⟨0, Nat.zero_le _, rfl, HR0.out, HF.out⟩
  case round =>
    obtain ⟨k, hk, rfl, hR, hG⟩ := hrel
    have HG := Lib.hid hG
    have HR := Lib.hid hR
    clear hG hR
    rcases Nat.lt_or_ge k n with hlt | hge
    · obtain ⟨b, off, rfl, h0w, h1w, h2w⟩ := cmds_at HC.out hlt
      have h1 := HG.out.cell h1w (fun h => h)
      have H1w := Lib.hid h1w
      have hts : keysR (L.take (k + 1)) = keyStep (keysR (L.take k)) (cmx L k) := by rw [List.take_succ_eq_append_getElem (by rw [HLn.out]; exact hlt), keysR_snoc, cmx_eq (by rw [HLn.out]; exact hlt)]
      have HTS := Lib.hid hts
      have HKL := Lib.hid (keysR_take_len (L := L) k (by rw [HLn.out]; exact hk))
      obtain ⟨A3, c3, rfl⟩ := Kd.R_slice HR.out
      have HCk := Lib.hid (Kd.R_reads' HR.out).2.2
      obtain ⟨out, hout⟩ : ∃ o, o = keysR (L.take k) := ⟨_, rfl⟩
      rw [← hout] at HTS HKL HCk HR ⊢
      have HOUT := Lib.hid hout
      have hol : out.length ≤ 9223372036854775807 := by have := HKL.out; omega
      clear hts h0w h1w h2w hout
      go_wp2_with fail
      refine (ref_in7 A3 out.length c3 out (cmx L k).2.1 wr HCk.out hol).mono ?_
      rintro r w2 ⟨rfl, hF2⟩
      have HF2 := Lib.hid hF2
      by_cases hin : (cmx L k).2.1 ∈ out
      · rw [cdec_true hin]
        have hst : keyStep out (cmx L k) = out := by unfold keyStep; rw [cdec_true hin, cond_true]
        have HST := Lib.hid hst
        clear hin hst hF2
        go_wp2_with fail
        go_roundw
        case rel => exact ⟨k + 1, by omega, by go_num, by rw [HTS.out, HST.out]; exact Kd.R_below HR.out (HF2.out.below (fun _ _ h => h)), HG.out.trans HF2.out⟩
        case measure => simp [intOf]; omega
      · rw [cdec_false hin]
        have hst : keyStep out (cmx L k) = insL (cmx L k).2.1 out := by unfold keyStep; rw [cdec_false hin, cond_false]
        have HST := Lib.hid hst
        obtain ⟨x, hx⟩ : ∃ x, x = (cmx L k).2.1 := ⟨_, rfl⟩
        rw [← hx] at H1w HST
        have HX := Lib.hid hx
        have HF3 := Lib.hid (HG.out.trans (HF2.out.alloc (.cells #[] 9)))
        have HR5 := Lib.hid (Kd.R_mono (Kd.R_lower (R_empty strK 9 w2) (HG.out.trans HF2.out).size) (ok' := fun b => w.heap.size ≤ b) (fun b hb => Nat.le_trans (HG.out.trans HF2.out).size hb))
        have HCk2 := Lib.hid (Kd.C_below HCk.out ((HF2.out.alloc (.cells #[] 9)).below (fun _ _ h => h)))
        have HK3 := Lib.hid (Kd.R_alloc (Kd.R_below HR.out (HF2.out.below (fun _ _ h => h))) (.cells #[] 9))
        have hb3 : ∀ b3, (Value.slice A3 out.length c3).ownBlock = some b3 → b3 < w2.heap.size := fun b3 hb => Nat.lt_of_lt_of_le (Kd.R_lt HR.out b3 hb) HF2.out.size
        have HB3 := Lib.hid hb3
        have HFw2 := Lib.hid hF2
        have hre := Kd.R_mono (Kd.R_lower (R_empty strK 9 w2) (HG.out.trans HF2.out).size) (ok' := fun b => w2.heap.size ≤ b) (fun b hb => hb)
        have HRE := Lib.hid hre
        clear hin hst hF2 hx h1 hb3 hre
        go_wp2_with fail
        generalize hw3 : w2.alloc (.cells #[] 9) = w3 at HF3 HCk2 HK3 HRE ⊢
        generalize hg5 : w2.heap.size = g5 at HB3 HRE ⊢
        have hg53 : g5 < w3.heap.size ∧ w.heap.size ≤ g5 := by
          constructor
          · rw [← hw3, ← hg5]; simp
          · rw [← hg5]; exact (HG.out.trans (show Fr (fun _ => False) wr w2 from HFw2.out)).size
        have HG53 := Lib.hid hg53
        have HR5' := Lib.hid (Kd.R_mono (show strK.R 9 w3 w.heap.size (fun b => g5 ≤ b) (.slice (some ⟨g5, 0, none⟩) 0 0) [] from HRE.out) (fun b hb => hb))
        have hmv : ∀ ws, Fr (fun b => g5 ≤ b) w3 ws → strK.C ws A3 out.length out := fun ws hF => strFlat.C_mv HCk2.out (fun hp ad ha => hF.block ad.block (by
            obtain ⟨bq, oq, hq, h0⟩ := strs_at HCk2.out hp
            rw [ha] at hq
            cases hq
            exact World.block_lt_of_cell? w3 _ h0) (by
            obtain ⟨g, cap, hv, _, hl, _⟩ := Kd.R_form HR.out hp
            injection hv with hv _ _
            have := HB3.out g (by rw [hv]; rfl)
            rw [ha] at hv
            cases hv
            simp only
            omega))
        have hff : ∀ ws, Fr (fun b => g5 ≤ b) w3 ws → Fr (fun _ => False) w ws := fun ws hF => HF3.out.trans' hF (fun i hi h => by have := HG53.out.2; omega)
        have HMV := Lib.hid hmv
        have HFF := Lib.hid hff
        clear hg53 hmv hff hw3 hg5
        go_loopw [5, 6, 7] (fun u d i wr => ∃ (q : Nat) (dd : Bool) (nx : List ByteArray), q ≤ out.length ∧ i = .int .i64 q ∧ d = .bool dd ∧ insRun x (out.take q) = (dd, nx) ∧ strK.R 9 wr w.heap.size (fun b => g5 ≤ b) u nx ∧ Fr (fun b => g5 ≤ b) w3 wr) (fun _ _ i _ => out.length - (intOf i).toNat)
        case atStart => exact ⟨0, false, [], Nat.zero_le _, rfl, rfl, rfl, HR5'.out, Fr.refl _ _⟩
        case round =>
          obtain ⟨q, dd, nx, hq, rfl, rfl, hrun, hR, hG⟩ := hrel
          have HGq := Lib.hid hG
          have HRq := Lib.hid hR
          have HRUN := Lib.hid hrun
          have hnl := (insRun_inv x (out.take q)).2.2
          rw [hrun, List.length_take] at hnl
          have HNL := Lib.hid hnl
          have h1 := (HFF.out _ hG).cell H1w.out (fun h => h)
          clear hG hR hrun hnl
          rcases Nat.lt_or_ge q out.length with hlq | hgq
          · obtain ⟨bo, oo, rfl, e0⟩ := strs_at (HMV.out _ HGq.out) hlq
            have hsn : insRun x (out.take (q + 1)) = insStep x (dd, nx) (stx out q) := by rw [take_stx hlq, insRun_snoc, HRUN.out]
            have HSN := Lib.hid hsn
            clear hsn
            have hcmp : Op.bytesLess x.toList (stx out q).toList = ltS x (stx out q) := rfl
            cases dd
            · cases hlt2 : ltS x (stx out q)
              · rw [hlt2] at hcmp
                have hst : insStep x (false, nx) (stx out q) = (false, nx ++ [stx out q]) := by unfold insStep; rw [hlt2]; rfl
                have HST := Lib.hid hst
                clear hlt2 hst
                go_wp2_with fail
                go_quiet (fail)
                have HRz := Lib.hid (Kd.R_drewN HRq.out nq)
                have HGz := Lib.hid (HGq.out.drewN nq)
                go_wp2_with (at_builtin; refine Kd.R_append strK w.heap.size rfl (.tmp 51) (.tmp 56) 43 9 _ 16 rfl Try.underlying43 info_str rfl (by decide) (by decide) u5 nx (stx out q) (strCells (stx out q)) (fun b => g5 ≤ b) (fun _ => False) (by rfl) (by rfl) rfl (fun _ h => h.elim) (fun b hb => by have h8 := HGz.out.size; have h9 := HG53.out; omega) HRz.out (Below.refl _ _) (by have h8 := HGz.out.size; have h9 := HG53.out; omega) (by have h1 := HNL.out; have h2 := HKL.out; omega) ?_; intro v1 w1a hR1 hB1 hg1 hat1; have HR1 := Lib.hid hR1; have HG1 := Lib.hid hg1; clear hR1 hB1 hg1 hat1)
                go_roundw
                case rel => exact ⟨q + 1, false, nx ++ [stx out q], by omega, by go_num, rfl, by rw [HSN.out, HST.out], HR1.out, HGz.out.trans' (Fr.of_grown HG1.out) (fun i hi h => HRz.out.1 i h.symm)⟩
                case measure => simp [intOf]; omega
              · rw [hlt2] at hcmp
                have hst : insStep x (false, nx) (stx out q) = (true, nx ++ [x] ++ [stx out q]) := by unfold insStep; rw [hlt2]; rfl
                have HST := Lib.hid hst
                clear hlt2 hst
                go_wp2_with fail
                go_quiet (fail)
                have HRz := Lib.hid (Kd.R_drewN HRq.out nq)
                have HGz := Lib.hid (HGq.out.drewN nq)
                have hey : ∀ w', Fr (fun b => g5 ≤ b) w3 w' → w'.cell? ⟨bo, oo + q, none⟩ = some (.string (stx out q)) := fun w' h => by
                  obtain ⟨b9, o9, h9, e9⟩ := strs_at (HMV.out _ h) hlq
                  cases h9
                  exact e9
                have HEY := Lib.hid hey
                clear hey
                go_wp2_with (first | (at_builtin; refine Kd.R_append strK w.heap.size rfl (.tmp 43) (.tmp 49) 43 9 _ 16 rfl Try.underlying43 info_str rfl (by decide) (by decide) u5 nx x (strCells x) (fun b => g5 ≤ b) (fun _ => False) (by rfl) (by rfl) rfl (fun _ h => h.elim) (fun b hb => by have h8 := HGz.out.size; have h9 := HG53.out; omega) HRz.out (Below.refl _ _) (by have h8 := HGz.out.size; have h9 := HG53.out; omega) (by have h1 := HNL.out; have h2 := HKL.out; omega) ?_; intro v1 w1a hR1 hB1 hg1 hat1; have HGy := Lib.hid (HGz.out.trans' (Fr.of_grown hg1) (fun i hi h => HRz.out.1 i h.symm)); have e02 := HEY.out _ HGy.out; have HR1 := Lib.hid hR1; clear hR1 hB1 hg1 hat1) | (at_builtin; refine Kd.R_append strK w.heap.size rfl (.tmp 51) (.tmp 56) 43 9 _ 16 rfl Try.underlying43 info_str rfl (by decide) (by decide) v1 (nx ++ [x]) (stx out q) (strCells (stx out q)) (fun b => g5 ≤ b) (fun _ => False) (by rfl) (by rfl) rfl (fun _ h => h.elim) (fun b hb => by have h8 := HGy.out.size; have h9 := HG53.out; omega) HR1.out (Below.refl _ _) (by have h8 := HGy.out.size; have h9 := HG53.out; omega) (by rw [List.length_append, List.length_singleton]; have h1 := HNL.out; have h2 := HKL.out; omega) ?_; intro v2 w2a hR2 hB2 hg2 hat2; have HR2 := Lib.hid hR2; have HG2 := Lib.hid hg2; clear hR2 hB2 hg2 hat2))
                go_roundw
                case rel => exact ⟨q + 1, true, nx ++ [x] ++ [stx out q], by omega, by go_num, rfl, by rw [HSN.out, HST.out], HR2.out, HGy.out.trans' (Fr.of_grown HG2.out) (fun i hi h => HR1.out.1 i h.symm)⟩
                case measure => simp [intOf]; omega
            · have hst : insStep x (true, nx) (stx out q) = (true, nx ++ [stx out q]) := rfl
              have HST := Lib.hid hst
              clear hst hcmp
              go_wp2_with fail
              go_quiet (fail)
              have HRz := Lib.hid (Kd.R_drewN HRq.out nq)
              have HGz := Lib.hid (HGq.out.drewN nq)
              go_wp2_with (at_builtin; refine Kd.R_append strK w.heap.size rfl (.tmp 51) (.tmp 56) 43 9 _ 16 rfl Try.underlying43 info_str rfl (by decide) (by decide) u5 nx (stx out q) (strCells (stx out q)) (fun b => g5 ≤ b) (fun _ => False) (by rfl) (by rfl) rfl (fun _ h => h.elim) (fun b hb => by have h8 := HGz.out.size; have h9 := HG53.out; omega) HRz.out (Below.refl _ _) (by have h8 := HGz.out.size; have h9 := HG53.out; omega) (by have h1 := HNL.out; have h2 := HKL.out; omega) ?_; intro v1 w1a hR1 hB1 hg1 hat1; have HR1 := Lib.hid hR1; have HG1 := Lib.hid hg1; clear hR1 hB1 hg1 hat1)
              go_roundw
              case rel => exact ⟨q + 1, true, nx ++ [stx out q], by omega, by go_num, rfl, by rw [HSN.out, HST.out], HR1.out, HGz.out.trans' (Fr.of_grown HG1.out) (fun i hi h => HRz.out.1 i h.symm)⟩
              case measure => simp [intOf]; omega
          · obtain rfl : q = out.length := by omega
            have hnx0 : nx.length ≤ out.length + 1 := by have h := HNL.out; simp only [Nat.min_self] at h; exact h
            have HNX := Lib.hid (show nx.length + 1 ≤ 9223372036854775807 from by have h2 := HKL.out; omega)
            have HNX0 := Lib.hid hnx0
            clear hnx0
            have tqq : decide (out.length < out.length) = false := decide_eq_false (by omega)
            have hrun := HRUN.out
            rw [List.take_length] at hrun
            cases dd
            · have hins : insL x out = nx ++ [x] := by unfold insL; rw [hrun]; rfl
              have HINS := Lib.hid hins
              clear hins hrun
              go_wp2_with (at_builtin; refine Kd.R_append strK w.heap.size rfl (.tmp 60) (.tmp 66) 43 9 _ 16 rfl Try.underlying43 info_str rfl (by decide) (by decide) u5 nx x (strCells x) (fun b => g5 ≤ b) (fun _ => False) (by rfl) (by rfl) rfl (fun _ h => h.elim) (fun b hb => by have h8 := HGq.out.size; have h9 := HG53.out; omega) HRq.out (Below.refl _ _) (by have h8 := HGq.out.size; have h9 := HG53.out; omega) (by have h1 := HNX0.out; have h2 := HKL.out; omega) ?_; intro v1 w5 hR1 hB1 hg1 hat1; have HR1 := Lib.hid hR1; have HG1 := Lib.hid hg1; clear hR1 hB1 hg1 hat1)
              go_roundw
              case rel =>
                refine ⟨k + 1, by omega, by go_num, ?_, HFF.out _ (HGq.out.trans' (Fr.of_grown HG1.out) (fun i hi h => HRq.out.1 i h.symm))⟩
                rw [HTS.out, HST.out, HINS.out]
                exact Kd.R_mono HR1.out (fun b hb => Nat.le_trans HG53.out.2 hb)
              case measure => simp [intOf]; omega
            · have hins : insL x out = nx := by unfold insL; rw [hrun]; rfl
              have HINS := Lib.hid hins
              clear hins hrun
              go_wp2_with fail
              go_roundw
              case rel =>
                refine ⟨k + 1, by omega, by go_num, ?_, HFF.out _ HGq.out⟩
                rw [HTS.out, HST.out, HINS.out]
                exact Kd.R_mono HRq.out (fun b hb => Nat.le_trans HG53.out.2 hb)
              case measure => simp [intOf]; omega
    · obtain rfl : n = k := by omega
      have tnn : decide (n < n) = false := decide_eq_false (by omega)
      have hl : L.take n = L := by rw [← HLn.out]; exact List.take_length
      go_wp2_with fail
      go_ret
      exact ⟨_, rfl, by rw [← hl]; exact HR.out, HG.out⟩
end Go.Proofs.Ytepfhcimmbkilaa
/- The reference's keys stand in rising order; rising lists of the same texts are one. -/
namespace Go.Proofs.Ytepfhcimmbkilaa
open Go.RowKit
open Go.Proofs.YtepfhcimmbkilaaW.PrintWords

theorem foldT (x : ByteArray) : ∀ (r q : List ByteArray), r.foldl (insStep x) (true, q) = (true, q ++ r) := by
  intro r
  induction r with
  | nil => intro q; simp
  | cons y r ih =>
    intro q
    rw [List.foldl_cons, show insStep x (true, q) y = (true, q ++ [y]) from rfl, ih]
    simp
theorem insF (x : ByteArray) : ∀ (r p : List ByteArray), (∀ y ∈ p, ltS x y = false) → ∃ p1 p2, p ++ r = p1 ++ p2 ∧ (if (r.foldl (insStep x) (false, p)).1 = true then (r.foldl (insStep x) (false, p)).2 else (r.foldl (insStep x) (false, p)).2 ++ [x]) = p1 ++ x :: p2 ∧
    (∀ y ∈ p1, ltS x y = false) ∧ (∀ z t, p2 = z :: t → ltS x z = true) := by
  intro r
  induction r with
  | nil => intro p hp; exact ⟨p, [], by simp, by simp, hp, fun z t h => by cases h⟩
  | cons y r ih =>
    intro p hp
    rw [List.foldl_cons]
    cases hy : ltS x y
    · have hs : insStep x (false, p) y = (false, p ++ [y]) := by unfold insStep; rw [hy]; rfl
      rw [hs]
      obtain ⟨p1, p2, h1, h2, h3, h4⟩ := ih (p ++ [y]) (fun z hz => by
        rcases List.mem_append.1 hz with hz | hz
        · exact hp z hz
        · rw [List.mem_singleton.1 hz]; exact hy)
      exact ⟨p1, p2, by rw [← h1]; simp, h2, h3, h4⟩
    · have hs : insStep x (false, p) y = (true, p ++ [x] ++ [y]) := by unfold insStep; rw [hy]; rfl
      rw [hs, foldT]
      exact ⟨p, y :: r, rfl, by simp, hp, fun z t h => by cases h; exact hy⟩
theorem ltS_iff (a b : ByteArray) : ltS a b = true ↔ a.toList < b.toList := by
  unfold ltS
  rw [bytesLess_eq]
  exact decide_eq_true_iff
theorem ltS_no (a b : ByteArray) : ltS a b = false ↔ ¬ a.toList < b.toList := by
  rw [← ltS_iff]
  simp
def Rising (l : List ByteArray) : Prop := l.Pairwise (fun a b => a.toList < b.toList)
theorem lt_of_not {a b : List UInt8} (h : ¬ a < b) (hn : b ≠ a) : b < a := by
  rcases List.le_iff_lt_or_eq.1 (List.not_lt.1 h) with h | h
  · exact h
  · exact absurd h hn
theorem insL_rising {x : ByteArray} {out : List ByteArray} (h : Rising out) (hx : x ∉ out) : Rising (insL x out) := by
  obtain ⟨p1, p2, h1, h2, h3, h4⟩ := insF x out [] (fun y hy => by cases hy)
  rw [List.nil_append] at h1
  have he : insL x out = p1 ++ x :: p2 := h2
  rw [he]
  unfold Rising at h ⊢
  rw [h1] at h hx
  obtain ⟨g1, g2, g3⟩ := List.pairwise_append.1 h
  have q2 : ∀ z ∈ p2, x.toList < z.toList := by
    cases p2 with
    | nil => intro z hz; cases hz
    | cons z t =>
      have hz := (ltS_iff _ _).1 (h4 z t rfl)
      intro y hy
      rcases List.mem_cons.1 hy with rfl | hy
      · exact hz
      · exact List.lt_trans hz ((List.pairwise_cons.1 g2).1 y hy)
  have q1 : ∀ y ∈ p1, y.toList < x.toList := fun y hy => lt_of_not ((ltS_no _ _).1 (h3 y hy)) (fun e => hx (List.mem_append_left _ (by rw [← toList_inj e]; exact hy)))
  refine List.pairwise_append.2 ⟨g1, List.pairwise_cons.2 ⟨q2, g2⟩, fun a ha b hb => ?_⟩
  rcases List.mem_cons.1 hb with rfl | hb
  · exact q1 a ha
  · exact List.lt_trans (q1 a ha) (q2 b hb)
theorem keysF_rising : ∀ (L : List Cmd) (out : List ByteArray), Rising out → Rising (L.foldl keyStep out) := by
  intro L
  induction L with
  | nil => intro out h; exact h
  | cons c L ih =>
    intro out h
    rw [List.foldl_cons]
    refine ih _ ?_
    by_cases hc : c.2.1 ∈ out
    · rw [show keyStep out c = out from by unfold keyStep; rw [cdec_true hc]; rfl]
      exact h
    · rw [show keyStep out c = insL c.2.1 out from by unfold keyStep; rw [cdec_false hc]; rfl]
      exact insL_rising h hc
theorem keysR_rising (L : List Cmd) : Rising (keysR L) := keysF_rising L [] List.Pairwise.nil
theorem rising_one : ∀ (a b : List ByteArray), Rising a → Rising b → (∀ s, s ∈ a ↔ s ∈ b) → a = b := by
  intro a
  induction a with
  | nil =>
    intro b _ _ h
    cases b with
    | nil => rfl
    | cons y b => exact absurd ((h y).2 (List.mem_cons_self ..)) (by simp)
  | cons x a ih =>
    intro b ha hb h
    cases b with
    | nil => exact absurd ((h x).1 (List.mem_cons_self ..)) (by simp)
    | cons y b =>
      obtain ⟨a1, a2⟩ := List.pairwise_cons.1 ha
      obtain ⟨b1, b2⟩ := List.pairwise_cons.1 hb
      have hxy : x = y := by
        rcases List.mem_cons.1 ((h x).1 (List.mem_cons_self ..)) with e | e
        · exact e
        · rcases List.mem_cons.1 ((h y).2 (List.mem_cons_self ..)) with e' | e'
          · exact e'.symm
          · exact absurd (List.lt_trans (a1 y e') (b1 x e)) (List.lt_irrefl _)
      subst hxy
      rw [ih b a2 b2 (fun s => ?_)]
      constructor
      · intro hs
        rcases List.mem_cons.1 ((h s).1 (List.mem_cons_of_mem _ hs)) with e | e
        · subst e; exact absurd (a1 s hs) (List.lt_irrefl _)
        · exact e
      · intro hs
        rcases List.mem_cons.1 ((h s).2 (List.mem_cons_of_mem _ hs)) with e | e
        · subst e; exact absurd (b1 s hs) (List.lt_irrefl _)
        · exact e
end Go.Proofs.Ytepfhcimmbkilaa
