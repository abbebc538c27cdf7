/- Texts of VaultApplies, merged (14 of 33): VaultM, VaultW. -/
import Derived.Test.YtepfhcimmbkilaaGVaultApplies12
import Derived.Test.YtepfhcimmbkilaaGVaultApplies13
import Derived.Test.YtepfhcimmbkilaaGVaultApplies10
import Derived.Deep.QuietTactic
import Derived.BigQuiet
set_option linter.unusedVariables false
set_option linter.unusedSimpArgs false
/- Vault.Digest. -/
namespace Go.Proofs.Ytepfhcimmbkilaa
open Go.RowKit
open Go.Proofs.YtepfhcimmbkilaaW.PrintWords

theorem foldl_bad {key : ByteArray} (hk : ¬ keyOk key) : ∀ (H : List HE) (c : CellD), H.foldl (cellStep key) c = c := by
  intro H
  induction H with
  | nil => intro c; rfl
  | cons e H ih =>
    intro c
    have he : cellStep key c e = c := by
      unfold cellStep
      by_cases h : e.2.2.2.1 = key
      · rw [cdec_true h, cond_true, doC_bad (fun h' => hk (h ▸ h'.2.1))]
      · rw [cdec_false h, cond_false]
    rw [List.foldl_cons, he]
    exact ih c
theorem found_key {H : List HE} {key : ByteArray} (h : (cellOf H key).1 = true) : keyOk key := Classical.byContradiction fun hn => by
  rw [show cellOf H key = (false, 0) from foldl_bad hn H _] at h
  cases h
theorem field_val (f : Bool) (x : Nat) (w : World) : (Instr.field 53 (.agg #[.bool f, .float .f64 x]) 1).run Try.prog w = .ok (.float .f64 x) w := by kernel_rfl
/-- One key's share. -/
noncomputable def oneV (H : List HE) (k : ByteArray) : Nat := dOf (bytesOf k ++ be8 (canonP (cellOf H k).2))
theorem foldl_snoc {α β : Type} (f : α → β → α) (l : List β) (x : β) (z : α) : (l ++ [x]).foldl f z = f (l.foldl f z) x := by rw [List.foldl_append]; rfl
noncomputable def mixV (one : ByteArray → Nat) (h : Nat) (k : ByteArray) : Nat := dOf (be8 h ++ be8 (one k))
noncomputable def digV (H : List HE) (ks : List ByteArray) : Nat := ks.foldl (mixV (oneV H)) 0
theorem digV_snoc (H : List HE) (ks : List ByteArray) (k : ByteArray) : digV H (ks ++ [k]) = mixV (oneV H) (digV H ks) k := foldl_snoc (mixV (oneV H)) ks k 0
theorem mixV_lt (one : ByteArray → Nat) (h : Nat) (k : ByteArray) : mixV one h k < 18446744073709551616 := dOf_lt _
theorem digV_lt (H : List HE) (ks : List ByteArray) : digV H ks < 18446744073709551616 := by
  unfold digV
  generalize hz : (0 : Nat) = z
  have hz' : z < 18446744073709551616 := by omega
  clear hz
  induction ks generalizing z with
  | nil => simpa using hz'
  | cons k ks ih =>
    rw [List.foldl_cons]
    exact ih _ (mixV_lt _ _ _)
theorem digV_same {H H' : List HE} (h : ∀ k, cellOf H k = cellOf H' k) (ks : List ByteArray) : digV H ks = digV H' ks := by
  have : oneV H = oneV H' := by funext k; unfold oneV; rw [h k]
  unfold digV
  rw [this]
set_option maxRecDepth 100000 in
set_option maxHeartbeats 4000000 in
theorem vault_digest (g n : Nat) (S : Nat → Prop) (H : List HE) (w : World) (h : VaultRep w S g H n) (hH : HGood H) (hHl : H.length ≤ 1000000000) :
    Calls Try.prog 18 #[.pointer (some ⟨g, 0, none⟩)] w fun r w' => ∃ ks, KeysV H ks ∧ r = .returned (.int .u64 (digV H ks)) ∧ Fr (fun _ => False) w w' := by
  have HV := Lib.hid h
  have HH := Lib.hid hH
  clear h hH
  go_enter Try.func18, Try.ntmps18
  go_wp2_with fail
  refine (vault_keys g n S H w HV.out hHl).mono ?_
  rintro r w1 ⟨v1, ks, rfl, hR1, hK, hF1⟩
  obtain ⟨A1, c1, rfl⟩ := Kd.R_slice hR1
  have HC := Lib.hid (Kd.R_reads' hR1).2.2
  have HK := Lib.hid hK
  have HF1 := Lib.hid hF1
  have hkb : ks.length ≤ 1000000000 := Nat.le_trans hK.len hHl
  clear hR1 hK hF1
  go_wp2_with fail
  go_loopw [3, 10] (fun u i wr => ∃ k : Nat, k ≤ ks.length ∧ i = .int .i64 k ∧ u = .int .u64 (digV H (ks.take k)) ∧ Fr (fun _ => False) w1 wr) (fun _ i _ => ks.length - (intOf i).toNat)
  case atStart => exact ⟨0, Nat.zero_le _, rfl, rfl, Fr.refl _ _⟩
  case round =>
    obtain ⟨k, hk, rfl, rfl, hG⟩ := hrel
    have HG := Lib.hid hG
    clear hG
    rcases Nat.lt_or_ge k ks.length with hlt | hge
    · obtain ⟨b, off, rfl, h0⟩ := strs_at (Kd.C_below HC.out (HG.out.below (fun _ _ h => h))) hlt
      have hfd := (HK.out.mem _).1 (stx_mem hlt)
      obtain ⟨s, hs⟩ : ∃ s, s = stx ks k := ⟨_, rfl⟩
      have HTK := Lib.hid (show ks.take (k + 1) = ks.take k ++ [s] from by rw [take_stx hlt, hs])
      rw [← hs] at h0 hfd
      have hsz : s.size ≤ 12 := (found_key hfd).2.2
      have hmx : s.size ≤ maxLen := by unfold maxLen; omega
      have hFb : Fr (fun _ => False) wr (Lib.bytesWorld wr 5 s) := Fr.of_below (bytes_below (Below.refl wr.heap.size wr) (Nat.le_refl _) 5 s)
      have hrd := bytes_reads wr 5 s (by omega)
      have kb := print_bytes (P := Try.prog) 9 79 5 Try.underlying9 Try.underlying79 Try.underlying5 s wr
      obtain ⟨mc, ml, F, Lh, hV⟩ := HV.out
      have hVb := hV.fr (HF1.out.trans (HG.out.trans hFb)) (fun _ _ h => h)
      have hlk := hVb.look hmx
      have v0 := hVb.blk.cell 0
      simp only [List.getElem?_toArray, List.getElem?_cons_zero, List.getElem?_cons_succ] at v0
      obtain ⟨c, hc⟩ : ∃ c, c = cellOf H s := ⟨_, rfl⟩
      rw [← hc] at hlk hfd
      have hco : c.2 < 18446744073709551616 := by rw [hc]; exact (cellOf_canon HH.out s).1
      replace hlk : (Instr.lookup 59 (.map (some mc)) (.string s) false).run Try.prog (Lib.bytesWorld wr 5 s) = .ok (.agg #[.bool c.1, .float .f64 c.2]) (Lib.bytesWorld wr 5 s) := hlk
      have hfl := field_val c.1 c.2
      have HCC := Lib.hid hc
      have HFB := Lib.hid (HG.out.trans hFb)
      have HRD := Lib.hid hrd
      have HSZ := Lib.hid hsz
      have hcap : s.size ≤ grownCap wr s.size 0 5 := grownCap_ge _ _ _ _
      have HCAP := Lib.hid hcap
      clear hV hVb hc hrd hFb hs hfd hsz hcap
      generalize Lib.bytesWorld wr 5 s = wb at hlk v0 kb HFB HRD
      generalize grownCap wr s.size 0 5 = cap at kb HCAP
      generalize wr.heap.size = gx at kb HRD
      go_wp2_with fail
      refine (real_bits c.2 _).mono ?_
      rintro r w2 ⟨rfl, rfl⟩
      go_wp2_with fail
      have hle : (bytesOf s).length = s.size := bytesOf_length s
      have hcl : canonP c.2 < 18446744073709551616 := canon_lt hco
      have hwe := wire_eight (some ⟨gx, 0, none⟩) (bytesOf s) cap (canonP c.2) wb (by rw [hle]; exact HCAP.out) (by have := HRD.out; unfold RdB; rw [hle]; exact this) (by rw [hle]; have := HSZ.out; omega) hcl
      rw [hle] at hwe
      refine hwe.mono ?_
      rintro r w3 ⟨v3, rfl, hO3, hF3⟩
      obtain ⟨A3, c3, rfl, hR3⟩ := hO3.reads
      have HF3 := Lib.hid (HFB.out.trans hF3)
      have hl3 : (bytesOf s ++ be8 (canonP c.2)).length = s.size + 8 := by rw [List.length_append, hle]; rfl
      have HR3 := Lib.hid hR3
      have hby : Byt (bytesOf s ++ be8 (canonP c.2)) := (bytes_byt s).append (beTo_byt _ 8)
      have HBY := Lib.hid hby
      obtain ⟨xs, hxs⟩ : ∃ xs, xs = bytesOf s ++ be8 (canonP c.2) := ⟨_, rfl⟩
      rw [← hxs] at HR3 HBY hl3 ⊢
      have HXS := Lib.hid hxs
      have HL3 := Lib.hid hl3
      clear hO3 hF3 hR3 hwe hby hxs hl3 hle hcl
      go_wp2_with fail
      refine (dig_of A3 xs c3 w3 HR3.out HBY.out (by have := HL3.out; have := HSZ.out; omega)).mono ?_
      rintro r w4 ⟨rfl, rfl⟩
      go_wp2_with fail
      have ho : dOf xs = oneV H s := by rw [HXS.out, HCC.out]; rfl
      rw [ho]
      have hol : oneV H s < 18446744073709551616 := dOf_lt _
      have HOL := Lib.hid hol
      clear hol ho
      refine (dig_mix (digV H (ks.take k)) (oneV H s) w3 (digV_lt _ _) HOL.out).mono ?_
      rintro r w5 ⟨rfl, rfl⟩
      have hsn : dOf (be8 (digV H (ks.take k)) ++ be8 (oneV H s)) = digV H (ks.take (k + 1)) := by rw [HTK.out, digV_snoc]; rfl
      rw [hsn]
      clear hsn
      go_wp2_with fail
      go_roundw
      case rel => exact ⟨k + 1, by omega, by go_num, rfl, HF3.out⟩
      case measure => simp [intOf]; omega
    · obtain rfl : k = ks.length := by omega
      have tkk : decide (ks.length < ks.length) = false := decide_eq_false (by omega)
      rw [List.take_length]
      go_wp2_with fail
      go_ret
      exact ⟨ks, HK.out, rfl, HF1.out.trans HG.out⟩
end Go.Proofs.Ytepfhcimmbkilaa
/- within: whether all that a map has, another one has, too. -/
namespace Go.Proofs.Ytepfhcimmbkilaa
open Go.RowKit
open Go.Proofs.YtepfhcimmbkilaaW.PrintWords

set_option maxRecDepth 100000 in
set_option maxHeartbeats 4000000 in
theorem within_cell (m1 m2 : Nat) (f1 f2 : ByteArray → Option CellD) (w : World) (h1 : MapIn strE cellV w m1 f1) (h2 : MapIn strE cellV w m2 f2) (k1 : ∀ k c, f1 k = some c → CellOk c) (k2 : ∀ k c, f2 k = some c → CellOk c) :
    Calls Try.prog 34 #[.map (some m1), .map (some m2), .func (.func 35) #[] #[]] w fun r w' => r = .returned (.bool (cdec (∀ k c, f1 k = some c → absC c = absC ((f2 k).getD (false, 0))))) ∧ Fr (fun _ => False) w w' := by
  have H1 := Lib.hid h1
  have H2 := Lib.hid h2
  have K1 := Lib.hid k1
  have K2 := Lib.hid k2
  obtain ⟨w0, cnt0, hrange, hit0, hF0, hsz0⟩ := h1.range (t := 59) rfl
  have HI0 := Lib.hid hit0
  have HF0 := Lib.hid hF0
  clear h1 h2 k1 k2 hit0 hF0 hsz0
  go_enter Try.func34, Try.ntmps34
  go_wp2_with fail
  go_loopw [7] (fun u wr => ∃ (left : ByteArray → Prop) (cnt : Nat), MapIt strE cellV wr m1 w.heap.size f1 left cnt ∧ (∀ k c, f1 k = some c → ¬ left k → absC c = absC ((f2 k).getD (false, 0))) ∧ Fr (fun _ => False) w wr) (fun _ wr => wr.rangeLeft m1 w.heap.size)
  case atStart => exact ⟨_, _, HI0.out, fun k c h hn => absurd (by rw [h]; rfl) hn, HF0.out⟩
  case round =>
    obtain ⟨left, cnt, hit, hdone, hG⟩ := hrel
    have HG := Lib.hid hG
    have HD := Lib.hid hdone
    have HIT := Lib.hid hit
    clear hG hdone
    rcases hit.next 0 with ⟨hno, hnext⟩ | ⟨a, c, w1, cnt1, hok, hla, hfa, hnext, hit1, hlt1, hF1, hsz1, hen⟩
    · have HNO := Lib.hid hno
      clear hit hno
      go_wp2_with fail
      go_ret
      exact ⟨ret_bool (cdec_true fun k c h => HD.out k c h (HNO.out k)).symm, HG.out⟩
    · have HI1 := Lib.hid hit1
      have HG1 := Lib.hid (HG.out.trans' hF1 (fun i hi h => by omega))
      have HLA := Lib.hid hla
      have HFA := Lib.hid hfa
      have HLT := Lib.hid hlt1
      have hG1 := (HG1.out.alloc (.cells #[.bool c.1, .float .f64 c.2] 53))
      have HG2 := Lib.hid hG1
      have hlk := (H2.out.fr hG1 (fun h => h)).lookup (t := 59) (et := 53) Try.underlying59 (z := cellV (false, 0)) (zero_cell' _) (a := a) hok
      replace hlk : (Instr.lookup 59 (.map (some m2)) (.string a) false).run Try.prog (w1.alloc (.cells #[.bool c.1, .float .f64 c.2] 53)) = .ok (cellV ((f2 a).getD (false, 0))) (w1.alloc (.cells #[.bool c.1, .float .f64 c.2] 53)) := by
        rw [show cellV ((f2 a).getD (false, 0)) = (f2 a).elim (cellV (false, 0)) cellV from by cases f2 a <;> rfl]
        exact hlk
      have hok2 : CellOk ((f2 a).getD (false, 0)) := by
        cases hf2 : f2 a with
        | none => exact cell0_ok
        | some x => exact K2.out a x hf2
      have HOK2 := Lib.hid hok2
      clear hok2 hG1
      clear hit hla hfa hit1 hlt1 hF1
      replace hen : (Instr.entry (.pointer (some ⟨w.heap.size, 0, none⟩))).run Try.prog w1 = .ok (.tuple #[.string a, cellV c]) w1 := hen
      replace hnext : (Instr.next (.pointer (some ⟨w.heap.size, 0, none⟩)) false 0).run Try.prog wr = .ok (.tuple #[.bool true, .string a, cellV c]) w1 := hnext
      go_wp2_with fail
      refine (cell_same c ((f2 a).getD (false, 0)) _ (K1.out a c HFA.out) HOK2.out).mono ?_
      rintro r w2 ⟨rfl, hF2⟩
      have HG3 := Lib.hid (HG2.out.trans hF2)
      have HI2 := Lib.hid ((HI1.out.fr ((Fr.refl (fun _ => False) w1).alloc (.cells #[.bool c.1, .float .f64 c.2] 53)) (fun h => h) (fun h => h)).fr hF2 (fun h => h) (fun h => h))
      clear hF2
      by_cases hq : absC c = absC ((f2 a).getD (false, 0))
      · rw [decide_eq_true hq]
        have HQ := Lib.hid hq
        clear hq
        go_wp2_with fail
        go_roundw
        case rel =>
          refine ⟨_, _, HI2.out, fun k c' hk hn => ?_, HG3.out⟩
          by_cases hka : k = a
          · subst hka
            have h1 := HFA.out
            rw [hk] at h1
            cases h1
            exact HQ.out
          · exact HD.out k c' hk (fun h => hn ⟨h, hka⟩)
        case measure => rw [HI2.out.left_eq, HIT.out.left_eq]; exact HLT.out
      · rw [decide_eq_false hq]
        have HQ := Lib.hid hq
        clear hq
        go_wp2_with fail
        go_ret
        exact ⟨ret_bool (cdec_false fun h => HQ.out (h a c HFA.out)).symm, HG3.out⟩
end Go.Proofs.Ytepfhcimmbkilaa
