/- The places of those that write a key. -/
import Derived.Test.YtckcdgmcoomngaaBatK
import Derived.Test.YtckcdgmcoomngaaInts
import Derived.Test.YtckcdgmcoomngaaCmdP
set_option linter.unusedVariables false
set_option linter.unusedSimpArgs false
namespace Go.Proofs.Ytckcdgmcoomngaa
open Go.RowKit
open Go.Proofs.YtckcdgmcoomngaaW.PrintWords

theorem info_int' : (Try.prog.info? 3).map (fun i => (i.zero, i.size, i.bytes)) = some (some (.int .i64 0), intK.sz, 8) := by kernel_rfl
def wrP (key : ByteArray) (c : Cmd) : Prop := c.2.1 = key ∧ cmdOk c ∧ c.1 ≠ 1
noncomputable def wrsB (key : ByteArray) (L : List Cmd) (k : Nat) : List Int := ((List.range k).filter (fun i => cdec (wrP key (cmx L i)))).map (fun (i : Nat) => (i : Int))
theorem wrsB_yes {key : ByteArray} {L : List Cmd} {k : Nat} (h : wrP key (cmx L k)) : wrsB key L (k + 1) = wrsB key L k ++ [(k : Int)] := by
  unfold wrsB
  rw [List.range_succ, List.filter_append, List.map_append]
  simp [cdec_true h]
theorem wrsB_no {key : ByteArray} {L : List Cmd} {k : Nat} (h : ¬ wrP key (cmx L k)) : wrsB key L (k + 1) = wrsB key L k := by
  unfold wrsB
  rw [List.range_succ, List.filter_append, List.map_append]
  simp [cdec_false h]
theorem wrsB_len (key : ByteArray) (L : List Cmd) (k : Nat) : (wrsB key L k).length ≤ k := by
  unfold wrsB
  rw [List.length_map]
  have := List.length_filter_le (fun i => cdec (wrP key (cmx L i))) (List.range k)
  rwa [List.length_range] at this
set_option maxRecDepth 100000 in
set_option maxHeartbeats 4000000 in
theorem bat_writes (A : Option Addr) (n c : Nat) (L : List Cmd) (key : ByteArray) (w : World) (hC : cmdK.C w A n L) (hL : ∀ x ∈ L, CmdGood x) (hn : n ≤ 100000) :
    Calls Try.prog 23 #[.slice A n c, .string key] w fun r w' => ∃ v, r = .returned v ∧ intK.R 3 w' w.heap.size (fun b => w.heap.size ≤ b) v (wrsB key L n) ∧ Fr (fun _ => False) w w' := by
  have HLn := Lib.hid (show L.length = n from hC.1)
  have HC := Lib.hid hC
  have HO := Lib.hid hL
  clear hC hL
  go_enter Try.func23, Try.ntmps23
  go_wp2_with fail
  go_loopw [5, 10] (fun u i wr => ∃ k : Nat, k ≤ n ∧ i = .int .i64 k ∧ intK.R 3 wr w.heap.size (fun b => w.heap.size ≤ b) u (wrsB key L k) ∧ Fr (fun _ => False) w wr) (fun _ i _ => n - (intOf i).toNat)
  case atStart => exact ⟨0, Nat.zero_le _, rfl, Kd.R_nil _ _ _ _ _, Fr.refl _ _⟩
  case round =>
    obtain ⟨k, hk, rfl, hR, hG⟩ := hrel
    have HG := Lib.hid hG
    have HR := Lib.hid hR
    clear hR hG
    rcases Nat.lt_or_ge k n with hlt | hge
    · obtain ⟨b, off, rfl, h0, h1, h2⟩ := cmds_at (Kd.C_below HC.out (HG.out.below (fun _ _ h => h))) hlt
      have hgd := HO.out _ (cmx_mem (i := k) (by rw [HLn.out]; exact hlt))
      have HGD := Lib.hid hgd
      have HF := Lib.hid ((Fr.refl (fun _ => False) wr).alloc (.cells #[.int .i64 (cmx L k).1, .string (cmx L k).2.1, .float .f64 (cmx L k).2.2] 36))
      have HB := Lib.hid (Blk.new wr 36 #[.int .i64 (cmx L k).1, .string (cmx L k).2.1, .float .f64 (cmx L k).2.2])
      have HWL := Lib.hid (wrsB_len key L k)
      have hbq := beq_list (a := (cmx L k).2.1) (b := key)
      clear hgd
      by_cases hkk : (cmx L k).2.1 = key
      · rw [cdec_true hkk] at hbq
        have HKK := Lib.hid hkk
        clear hkk
        go_wp2_with fail
        refine (cmd_writes (cmx L k).1 (cmx L k).2.1 (cmx L k).2.2 _ HGD.out.1 HGD.out.2).mono ?_
        rintro r w2 ⟨rfl, hF2⟩
        have HF2 := Lib.hid (HG.out.trans (HF.out.trans hF2))
        have HR2 := Lib.hid (Kd.R_below HR.out ((HF.out.trans hF2).below (fun _ _ h => h)))
        clear hF2
        by_cases hok : cmdOk (cmx L k) ∧ (cmx L k).1 ≠ 1
        · rw [cdec_true (show cmdOk ((cmx L k).1, (cmx L k).2.1, (cmx L k).2.2) ∧ (cmx L k).1 ≠ 1 from hok)]
          have HY := Lib.hid (wrsB_yes (key := key) (L := L) (k := k) ⟨HKK.out, hok.1, hok.2⟩)
          clear hok
          go_wp2_with (at_builtin; refine Kd.R_append intK w.heap.size rfl (.tmp 23) (.tmp 25) 43 3 _ 8 rfl Try.underlying43 info_int' rfl (by decide) (by decide) u5 (wrsB key L k) (k : Int) [.int .i64 (k : Int)] (fun b => w.heap.size ≤ b) (fun _ => False) (by rfl) (by rfl) rfl (fun _ h => h.elim) (fun b hb => Nat.le_trans HF2.out.size hb) HR2.out (Below.refl _ _) HF2.out.size (by have := HWL.out; omega) ?_; intro v1 w3 hR1 hB1 hg1 hat1; have HR1 := Lib.hid hR1; have HG1 := Lib.hid hg1; clear hR1 hB1 hg1 hat1)
          go_roundw
          case rel =>
            refine ⟨k + 1, by omega, by go_num, by rw [HY.out]; exact HR1.out, HF2.out.trans' (Fr.of_grown HG1.out) (fun i hi h => by have := Kd.R_base HR2.out i h.symm; omega)⟩
          case measure => simp [intOf]; omega
        · rw [cdec_false (show ¬ (cmdOk ((cmx L k).1, (cmx L k).2.1, (cmx L k).2.2) ∧ (cmx L k).1 ≠ 1) from hok)]
          have HY := Lib.hid (wrsB_no (key := key) (L := L) (k := k) (fun h => hok h.2))
          clear hok
          go_wp2_with fail
          go_roundw
          case rel => exact ⟨k + 1, by omega, by go_num, by rw [HY.out]; exact HR2.out, HF2.out⟩
          case measure => simp [intOf]; omega
      · rw [cdec_false hkk] at hbq
        have HY := Lib.hid (wrsB_no (key := key) (L := L) (k := k) (fun h => hkk h.1))
        clear hkk
        go_wp2_with fail
        go_roundw
        case rel => exact ⟨k + 1, by omega, by go_num, by rw [HY.out]; exact Kd.R_below HR.out (HF.out.below (fun _ _ h => h)), HG.out.trans HF.out⟩
        case measure => simp [intOf]; omega
    · obtain rfl : n = k := by omega
      have tnn : decide (n < n) = false := decide_eq_false (by omega)
      go_wp2_with fail
      go_ret
      exact ⟨_, rfl, HR.out, HG.out⟩
set_option maxRecDepth 100000 in
set_option maxHeartbeats 4000000 in
theorem ref_writes7 (A : Option Addr) (n c : Nat) (L : List Cmd) (key : ByteArray) (w : World) (hC : cmdK.C w A n L) (hL : ∀ x ∈ L, CmdGood x) (hn : n ≤ 100000) :
    Calls Try.prog 24 #[.slice A n c, .string key] w fun r w' => ∃ v, r = .returned v ∧ intK.R 3 w' w.heap.size (fun b => w.heap.size ≤ b) v (wrsB key L n) ∧ Fr (fun _ => False) w w' := by
  have HLn := Lib.hid (show L.length = n from hC.1)
  have HC := Lib.hid hC
  have HO := Lib.hid hL
  have HF0 := Lib.hid ((Fr.refl (fun _ => False) w).alloc (.cells #[] 3))
  have HR0 := Lib.hid (R_empty intK 3 w)
  clear hC hL
  go_enter Try.func24, Try.ntmps24
  go_wp2_with fail
  go_loopw [5, 6] (fun u i wr => ∃ k : Nat, k ≤ n ∧ i = .int .i64 k ∧ intK.R 3 wr w.heap.size (fun b => w.heap.size ≤ b) u (wrsB key L k) ∧ Fr (fun _ => False) w wr) (fun _ i _ => n - (intOf i).toNat)
  case atStart => exact ⟨0, Nat.zero_le _, rfl, HR0.out, HF0.out⟩
  case round =>
    obtain ⟨k, hk, rfl, hR, hG⟩ := hrel
    have HG := Lib.hid hG
    have HR := Lib.hid hR
    clear hR hG
    rcases Nat.lt_or_ge k n with hlt | hge
    · obtain ⟨b, off, rfl, h0, h1, h2⟩ := cmds_at (Kd.C_below HC.out (HG.out.below (fun _ _ h => h))) hlt
      have hgd := HO.out _ (cmx_mem (i := k) (by rw [HLn.out]; exact hlt))
      have HGD := Lib.hid hgd
      have HWL := Lib.hid (wrsB_len key L k)
      have hbq := beq_list (a := (cmx L k).2.1) (b := key)
      clear hgd
      by_cases hkk : (cmx L k).2.1 = key
      · rw [cdec_true hkk] at hbq
        have HKK := Lib.hid hkk
        clear hkk
        by_cases h1k : (cmx L k).1 = 1
        · have t1 : ((cmx L k).1 != 1) = false := by simp [h1k]
          have HY := Lib.hid (wrsB_no (key := key) (L := L) (k := k) (fun h => h.2.2 h1k))
          clear h1k
          go_wp2_with fail
          go_roundw
          case rel => exact ⟨k + 1, by omega, by go_num, by rw [HY.out]; exact HR.out, HG.out⟩
          case measure => simp [intOf]; omega
        · have t1 : ((cmx L k).1 != 1) = true := by simpa using h1k
          have H1K := Lib.hid h1k
          clear h1k
          go_wp2_with fail
          refine (ref_cmd_right (cmx L k).1 (cmx L k).2.1 (cmx L k).2.2 _ HGD.out.1 HGD.out.2).mono ?_
          rintro r w2 ⟨rfl, hF2⟩
          have HF2 := Lib.hid (HG.out.trans hF2)
          have HR2 := Lib.hid (Kd.R_below HR.out (hF2.below (fun _ _ h => h)))
          clear hF2
          by_cases hok : cmdOk (cmx L k)
          · rw [cdec_true (show cmdOk ((cmx L k).1, (cmx L k).2.1, (cmx L k).2.2) from hok)]
            have HY := Lib.hid (wrsB_yes (key := key) (L := L) (k := k) ⟨HKK.out, hok, H1K.out⟩)
            clear hok
            go_wp2_with (at_builtin; refine Kd.R_append intK w.heap.size rfl (.tmp 36) (.tmp 38) 43 3 _ 8 rfl Try.underlying43 info_int' rfl (by decide) (by decide) u5 (wrsB key L k) (k : Int) [.int .i64 (k : Int)] (fun b => w.heap.size ≤ b) (fun _ => False) (by rfl) (by rfl) rfl (fun _ h => h.elim) (fun b hb => Nat.le_trans HF2.out.size hb) HR2.out (Below.refl _ _) HF2.out.size (by have := HWL.out; omega) ?_; intro v1 w3 hR1 hB1 hg1 hat1; have HR1 := Lib.hid hR1; have HG1 := Lib.hid hg1; clear hR1 hB1 hg1 hat1)
            go_roundw
            case rel =>
              refine ⟨k + 1, by omega, by go_num, by rw [HY.out]; exact HR1.out, HF2.out.trans' (Fr.of_grown HG1.out) (fun i hi h => by have := Kd.R_base HR2.out i h.symm; omega)⟩
            case measure => simp [intOf]; omega
          · rw [cdec_false (show ¬ cmdOk ((cmx L k).1, (cmx L k).2.1, (cmx L k).2.2) from hok)]
            have HY := Lib.hid (wrsB_no (key := key) (L := L) (k := k) (fun h => hok h.2.1))
            clear hok
            go_wp2_with fail
            go_roundw
            case rel => exact ⟨k + 1, by omega, by go_num, by rw [HY.out]; exact HR2.out, HF2.out⟩
            case measure => simp [intOf]; omega
      · rw [cdec_false hkk] at hbq
        have HY := Lib.hid (wrsB_no (key := key) (L := L) (k := k) (fun h => hkk h.1))
        clear hkk
        go_wp2_with fail
        go_roundw
        case rel => exact ⟨k + 1, by omega, by go_num, by rw [HY.out]; exact HR.out, HG.out⟩
        case measure => simp [intOf]; omega
    · obtain rfl : n = k := by omega
      have tnn : decide (n < n) = false := decide_eq_false (by omega)
      go_wp2_with fail
      go_ret
      exact ⟨_, rfl, HR.out, HG.out⟩
end Go.Proofs.Ytckcdgmcoomngaa
