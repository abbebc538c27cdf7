/- batch.Keys: each key once, rising. -/
import Derived.Test.YtckcdgmcoomngaaKeysU
import Derived.Test.YtckcdgmcoomngaaBatC
import Derived.Test.YtckcdgmcoomngaaMapR
import Derived.Test.YtckcdgmcoomngaaSortS
import Derived.Carry
set_option linter.unusedVariables false
set_option linter.unusedSimpArgs false
namespace Go.Proofs.Ytckcdgmcoomngaa
open Go.RowKit
open Go.Proofs.YtckcdgmcoomngaaW.PrintWords

def strB : KEnc Try.prog 9 ByteArray where
  enc := .string
  ok := fun s => s.size ≤ maxLen
  law := Maps.string_keyed Try.underlying9
  key := fun {a} h => by
    simp only [keyOf, Try.underlying9, mapKey, h, if_true]
    exact ⟨_, rfl⟩
  inj := fun h => by injection h
theorem nodup_len : ∀ (xs ys : List ByteArray), xs.Nodup → (∀ s ∈ xs, s ∈ ys) → xs.length ≤ ys.length := by
  intro xs
  induction xs with
  | nil => intro ys _ _; exact Nat.zero_le _
  | cons x xs ih =>
    intro ys hn hs
    obtain ⟨h1, h2⟩ := List.nodup_cons.1 hn
    have hx := hs x (List.mem_cons_self ..)
    have h3 := ih (ys.filter (fun y => decide (y ≠ x))) h2 (fun s hm => List.mem_filter.2 ⟨hs s (List.mem_cons_of_mem _ hm), decide_eq_true (fun e => h1 (by rw [← e]; exact hm))⟩)
    have h4 : (ys.filter (fun y => decide (y ≠ x))).length < ys.length := List.length_filter_lt_length_iff_exists.2 ⟨x, hx, by simp⟩
    rw [List.length_cons]
    omega
theorem strK_K' {w : World} (x : ByteArray) : strK.K w x (strCells x) := rfl
set_option maxRecDepth 100000 in
set_option maxHeartbeats 4000000 in
theorem bat_keys (A : Option Addr) (n c : Nat) (L : List Cmd) (w : World) (hC : cmdK.C w A n L) (hL : ∀ x ∈ L, CmdGood x) (hn : n ≤ 100000) :
    Calls Try.prog 20 #[.slice A n c] w fun r w' => ∃ v, r = .returned v ∧ strK.R 9 w' w.heap.size (fun b => w.heap.size ≤ b) v (keysR L) ∧ Fr (fun _ => False) w w' := by
  have HLn := Lib.hid (show L.length = n from hC.1)
  have HC := Lib.hid hC
  have HO := Lib.hid hL
  have hF0 := (Fr.refl (fun _ => False) w).alloc (.map #[] 0)
  have hM0 := MapIn.new strB Value.bool w
  have hmm := @run_makeMap Try.prog
  have HF0 := Lib.hid hF0
  have HM0 := Lib.hid hM0
  clear hC hL hF0 hM0
  go_enter Try.func20, Try.ntmps20
  go_wp2_with fail
  obtain ⟨m, hm⟩ : ∃ m, m = w.heap.size := ⟨_, rfl⟩
  have HM := Lib.hid hm
  rw [← hm] at HM0 ⊢
  clear hm hmm
  go_loopw [11] (fun i wr => ∃ (k : Nat) (F : ByteArray → Option Bool), k ≤ n ∧ i = .int .i64 k ∧ MapIn strB Value.bool wr m F ∧ (∀ s, (F s).isSome = true ↔ ∃ c ∈ L.take k, c.2.1 = s) ∧ Fr (fun _ => False) w wr) (fun i _ => n - (intOf i).toNat)
  case atStart => exact ⟨0, _, Nat.zero_le _, rfl, HM0.out, fun s => by simp, HF0.out⟩
  case round =>
    obtain ⟨k, F, hk, rfl, hM, hFs, hG⟩ := hrel
    have HG := Lib.hid hG
    have HMp := Lib.hid hM
    have HFS := Lib.hid hFs
    clear hM hFs hG
    rcases Nat.lt_or_ge k n with hlt | hge
    · obtain ⟨b, off, rfl, h0w, h1w, h2w⟩ := cmds_at HC.out hlt
      have h0 := HG.out.cell h0w (fun h => h)
      have h1 := HG.out.cell h1w (fun h => h)
      have h2 := HG.out.cell h2w (fun h => h)
      have hgd := HO.out _ (cmx_mem (i := k) (by rw [HLn.out]; exact hlt))
      have HTS := Lib.hid (show L.take (k + 1) = L.take k ++ [cmx L k] from by rw [List.take_succ_eq_append_getElem (by rw [HLn.out]; exact hlt), cmx_eq (by rw [HLn.out]; exact hlt)])
      obtain ⟨w2, hupd, hM2, hF2, hsz2⟩ := (HMp.out.alloc (.cells #[.int .i64 (cmx L k).1, .string (cmx L k).2.1, .float .f64 (cmx L k).2.2] 36)).update (t := 59) Try.underlying59 (a := (cmx L k).2.1) hgd.1 true
      replace hupd : (Instr.mapUpdate 59 (.map (some m)) (.string (cmx L k).2.1) (.bool true)).run Try.prog (wr.alloc (.cells #[.int .i64 (cmx L k).1, .string (cmx L k).2.1, .float .f64 (cmx L k).2.2] 36)) = .ok () w2 := hupd
      have HM2 := Lib.hid hM2
      have HG2 := Lib.hid ((HG.out.alloc (.cells #[.int .i64 (cmx L k).1, .string (cmx L k).2.1, .float .f64 (cmx L k).2.2] 36)).trans' hF2 (fun i hi h => by have := HM.out; omega))
      clear h0w h1w h2w hgd hM2 hF2 hsz2
      go_wp2_with fail
      go_roundw
      case rel =>
        refine ⟨k + 1, _, by omega, by go_num, HM2.out, fun s => ?_, HG2.out⟩
        rw [HTS.out]
        by_cases hs : s = (cmx L k).2.1
        · rw [if_pos hs]
          exact ⟨fun _ => ⟨cmx L k, by simp, hs.symm⟩, fun _ => rfl⟩
        · rw [if_neg hs, HFS.out s]
          constructor
          · rintro ⟨c, hc, he⟩; exact ⟨c, List.mem_append_left _ hc, he⟩
          · rintro ⟨c, hc, he⟩
            rcases List.mem_append.1 hc with hc | hc
            · exact ⟨c, hc, he⟩
            · rw [List.mem_singleton.1 hc] at he; exact absurd he.symm hs
      case measure => simp [intOf]; omega
    · obtain rfl : n = k := by omega
      have tnn : decide (n < n) = false := decide_eq_false (by omega)
      have hl : L.take n = L := by rw [← HLn.out]; exact List.take_length
      have hfs := HFS.out
      rw [hl] at hfs
      have HFL := Lib.hid hfs
      obtain ⟨w0, cnt0, hrange, hit0, hFr0, hsz0⟩ := HMp.out.range (t := 59) rfl
      have HI0 := Lib.hid hit0
      have HG0 := Lib.hid (HG.out.trans hFr0)
      have hxl : ∀ xs : List ByteArray, xs.Nodup → (∀ s ∈ xs, (F s).isSome = true) → xs.length ≤ n := fun xs h1 h2 => by
        have := nodup_len xs (L.map (·.2.1)) h1 (fun s hs => by obtain ⟨c, hc, he⟩ := (hfs s).1 (h2 s hs); exact List.mem_map.2 ⟨c, hc, he⟩)
        rwa [List.length_map, HLn.out] at this
      have HXL := Lib.hid hxl
      obtain ⟨q, hq⟩ : ∃ q, q = wr.heap.size := ⟨_, rfl⟩
      rw [← hq] at hrange HI0
      have HQ := Lib.hid (show m < q from by rw [hq]; exact HMp.out.lt)
      clear hl hfs hit0 hFr0 hsz0 hxl hq
      go_wp2_with fail
      go_loopw [6, 7] (fun u _ wr => ∃ (xs : List ByteArray) (left : ByteArray → Prop) (cnt : Nat), MapIt strB Value.bool wr m q F left cnt ∧ (∀ s, s ∈ xs ↔ (F s).isSome = true ∧ ¬ left s) ∧ xs.Nodup ∧ strK.R 9 wr w.heap.size (fun b => b ≠ m ∧ b ≠ q) u xs ∧ Fr (fun _ => False) w wr) (fun _ _ wr => wr.rangeLeft m q)
      case atStart => exact ⟨[], _, _, HI0.out, fun s => ⟨fun h => (by cases h), fun h => absurd h.1 h.2⟩, List.nodup_nil, Kd.R_nil _ _ _ _ _, HG0.out⟩
      case round =>
        obtain ⟨xs, left, cnt, hit, hxs, hnd, hR, hG⟩ := hrel
        have HG5 := Lib.hid hG
        have HXS := Lib.hid hxs
        have HND := Lib.hid hnd
        have HR := Lib.hid hR
        have HIT := Lib.hid hit
        clear hxs hnd hR hG
        rcases hit.next 0 with ⟨hno, hnext⟩ | ⟨a, c9, w1, cnt1, hok, hla, hfa, hnext, hit1, hlt1, hF1, hsz1, hen⟩
        · have HNO := Lib.hid hno
          clear hit hno
          go_wp2_with fail
          have hln := HXL.out xs HND.out (fun s hs => ((HXS.out s).1 hs).1)
          refine (sort_strs HR.out (by omega)).mono ?_
          rintro r W2 ⟨rfl, hR2, hF2⟩
          have HR2 := Lib.hid hR2
          have HG2 := Lib.hid (HG5.out.trans' hF2 (fun i hi h => by have := Kd.R_base HR.out i h.symm; omega))
          have hkeys : sortB xs = keysR L := rising_one _ _ (sortB_rising HND.out) (keysR_rising L) (fun s => by
            rw [sortB_mem, HXS.out s, keysR_mem, HFL.out s]
            exact ⟨fun h => h.1, fun h => ⟨h, HNO.out s⟩⟩)
          have HK := Lib.hid hkeys
          clear hR2 hF2 hkeys hln
          go_wp2_with fail
          go_ret
          exact ⟨_, rfl, by rw [← HK.out]; exact Kd.R_mono (Kd.R_bound HR2.out) (fun b hb => hb.2.1), HG2.out⟩
        · have HI1 := Lib.hid hit1
          have hG1 := HG5.out.trans' hF1 (fun i hi h => by have h1 := HQ.out; have h2 := HM.out; omega)
          have HG1 := Lib.hid hG1
          have HLA := Lib.hid hla
          have HFA := Lib.hid hfa
          have HLT := Lib.hid hlt1
          have hR1 := Kd.R_step HR.out (fun b hb hl => hF1.block b hl hb.2)
          have HR1 := Lib.hid hR1
          have hln := HXL.out xs HND.out (fun s hs => ((HXS.out s).1 hs).1)
          have HLN := Lib.hid hln
          clear hit hla hfa hit1 hlt1 hF1 hR1 hG1 hln hsz1
          replace hen : (Instr.entry (.pointer (some ⟨q, 0, none⟩))).run Try.prog w1 = .ok (.tuple #[.string a, .bool c9]) w1 := hen
          replace hnext : (Instr.next (.pointer (some ⟨q, 0, none⟩)) false 0).run Try.prog wr = .ok (.tuple #[.bool true, .string a, .bool c9]) w1 := hnext
          go_wp2_with (at_builtin; refine Kd.R_append strK w.heap.size rfl (.tmp 25) (.tmp 27) 40 9 _ 16 rfl Try.underlying40 info_str rfl (by decide) (by decide) u6 xs a (strCells a) (fun b => b ≠ m ∧ b ≠ q) (fun _ => False) (by rfl) (by rfl) rfl (fun _ h => h.elim) (fun b hb => by have h1 := HI1.out.lt; have h2 := HQ.out; omega) HR1.out (Below.refl _ _) HG1.out.size (by have := HLN.out; omega) ?_; intro v1 w2 hR2 hB2 hg2 hat2; have HR2 := Lib.hid hR2; have HG2 := Lib.hid hg2; clear hR2 hB2 hg2 hat2)
          go_roundw
          case rel =>
            refine ⟨xs ++ [a], _, _, HI1.out.fr (Fr.of_grown HG2.out) (fun h => (HR1.out.1 m h.symm).1 rfl) (fun h => (HR1.out.1 q h.symm).2 rfl), fun s => ?_, ?_, HR2.out, HG1.out.trans' (Fr.of_grown HG2.out) (fun i hi h => by have := Kd.R_base HR1.out i h.symm; omega)⟩
            · by_cases hs : s = a
              · subst hs
                exact ⟨fun _ => ⟨by rw [HFA.out]; rfl, fun h => h.2 rfl⟩, fun _ => by simp⟩
              · constructor
                · intro h
                  rcases List.mem_append.1 h with h | h
                  · exact ⟨((HXS.out s).1 h).1, fun hl => ((HXS.out s).1 h).2 hl.1⟩
                  · exact absurd (List.mem_singleton.1 h) hs
                · intro h
                  exact List.mem_append_left _ ((HXS.out s).2 ⟨h.1, fun hl => h.2 ⟨hl, hs⟩⟩)
            · refine List.nodup_append.2 ⟨HND.out, by simp, fun x hx y hy e => ?_⟩
              rw [List.mem_singleton.1 hy] at e
              rw [e] at hx
              exact ((HXS.out a).1 hx).2 HLA.out
          case measure =>
            rw [(HI1.out.fr (Fr.of_grown HG2.out) (fun h => (HR1.out.1 m h.symm).1 rfl) (fun h => (HR1.out.1 q h.symm).2 rfl)).left_eq, HIT.out.left_eq]; exact HLT.out
end Go.Proofs.Ytckcdgmcoomngaa
