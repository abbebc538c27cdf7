/- The law FoldTells, walked. -/
import Derived.Test.YtoklncfdhlplkaaRef13D
import Derived.Test.YtoklncfdhlplkaaBoth14
import Derived.Test.YtoklncfdhlplkaaWorks14
set_option linter.unusedVariables false
set_option linter.unusedSimpArgs false
namespace Go.Proofs.Ytoklncfdhlplkaa
open Go.RowKit
open Go.Proofs.YtoklncfdhlplkaaW.PrintWords

theorem toldN_canon {H : List HE} (hH : HGood H) (id : Int × Int) (L : List Cmd) (hL : ∀ x ∈ L, CmdGood x) (k : Nat) (hk : k ≤ L.length) : ∀ x ∈ toldN H id L k, CellC x.2.2 := fun x hx => by
  obtain ⟨i, hi, rfl⟩ := List.mem_map.1 hx
  have hi := List.mem_range.1 hi
  exact (doC_canon (cellOf_canon (hH.append (tagN_good (by omega) hL)) _) (hL _ (cmx_mem (by omega)))).2
theorem runI_canon {L : List Item} (hL : ItemsGood L) : ∀ k, k ≤ L.length → ∀ x ∈ (runI (L.take k)).2, CellC x.2.2
  | 0, _, x, hx => absurd hx (by rw [List.take_zero]; exact List.not_mem_nil)
  | k + 1, hk, x, hx => by
    rw [runI_succ (by omega)] at hx
    unfold stepI at hx
    split at hx
    · rcases List.mem_append.1 hx with hx | hx
      · exact runI_canon hL k (by omega) x hx
      · exact toldN_canon (runI_take hL k (by omega)).1 _ _ (hL _ (itx_mem (by omega))) _ (Nat.le_refl _) x hx
    · exact runI_canon hL k (by omega) x hx
theorem absR_canon {T : List Rs} (h : ∀ x ∈ T, CellC x.2.2) : T.map absR = T := by
  have : T.map absR = T.map id := List.map_congr_left fun x hx => by
    obtain ⟨a, b, c⟩ := x
    show (a, b, absC c) = (a, b, c)
    rw [(h _ hx).2]
  rw [this, List.map_id]
set_option maxRecDepth 100000 in
set_option maxHeartbeats 4000000 in
theorem lawTells14 (A : Option Addr) (n c : Nat) (L : List Item) (key : ByteArray) (w : World) (hC : itemK.C w A n L) (hL : ItemsGood L) (hk : key.size ≤ maxLen) :
    Calls Try.prog 4 #[.slice A n c, .string key] w fun r w' => r = .returned (.bool true) ∧ Fr (fun _ => False) w w' := by
  have hmx : n ≤ 9223372036854775807 := hC.2.1
  have HLn := Lib.hid (show L.length = n from hC.1)
  have HC := Lib.hid hC
  have HO := Lib.hid hL
  have HK := Lib.hid hk
  clear hC hL hk
  rcases Nat.lt_or_ge 12 n with hb1 | hb1
  · have t1 : decide ((12 : Int) < (n : Int)) = true := decide_eq_true (by omega)
    go_enter Try.func4, Try.ntmps4
    go_wp2_with fail
    refine (works14 _).mono ?_
    rintro e w1 ⟨rfl, hF1⟩
    go_wp2_with fail
    go_ret
    exact ⟨rfl, hF1⟩
  · have t1 : decide ((12 : Int) < (n : Int)) = false := decide_eq_false (by omega)
    go_enter Try.func4, Try.ntmps4
    go_wp2_with fail
    refine (both14c A n c L _ HC.out HO.out (by omega)).mono ?_
    rintro r w1 ⟨A1, c1, A2, c2, rfl, hCa, hCb, hcb, hF1⟩
    have HCa := Lib.hid hCa
    have HCb := Lib.hid hCb
    have HCc := Lib.hid hcb
    have HF1 := Lib.hid hF1
    have hgl : (goodI L).length ≤ 12 := by have h1 := goodI_len L; have h2 := HLn.out; omega
    have HGL := Lib.hid hgl
    have h8 : ∀ it ∈ goodI L, it.2.length ≤ 8 := fun it hi => errBat_len (by simpa using (List.mem_filter.1 hi).2)
    have H8 := Lib.hid h8
    have HGI := Lib.hid (goodI_good HO.out)
    clear hCa hCb hcb hF1 hgl t1 h8
    have HCAN := Lib.hid (cellOf_canon (show HGood (runI L).1 from by have := (runI_take HO.out L.length (Nat.le_refl _)).1; rwa [List.take_length] at this) key)
    obtain ⟨x1, hx1⟩ : ∃ x, x = cellOf (runI L).1 key := ⟨_, rfl⟩
    have hfc := fun w hC => fold_cell A1 n c1 L key w hC HO.out (by omega) HK.out
    rw [← hx1] at hfc HCAN
    have HFC := Lib.hid hfc
    have HX1 := Lib.hid hx1
    clear hx1 hfc
    go_wp2_with fail
    refine (HFC.out w1 HCa.out).mono ?_
    rintro r w2 ⟨rfl, hF2⟩
    have HF2 := Lib.hid hF2
    clear hF2
    go_wp2_with fail
    refine (ref_cell13 A2 (goodI L).length c2 (goodI L) key w2 (Kd.C_below HCb.out (HF2.out.below (fun _ _ h => h))) HGI.out (by have := HGL.out; omega)).mono ?_
    rintro r w3 ⟨u, rfl, hu, huo, hF3⟩
    have heq : absC x1 = absC u := by rw [HCAN.out.2, hu, HX1.out, runI_eq]
    have HEQ := Lib.hid heq
    have HUO := Lib.hid huo
    have HF3 := Lib.hid (HF2.out.trans hF3)
    clear heq hu huo hF3
    go_wp2_with fail
    refine (ref_cell_same x1 u w3 HCAN.out.1 HUO.out).mono ?_
    rintro r w4 ⟨rfl, hF4⟩
    rw [decide_eq_true HEQ.out]
    have HF4 := Lib.hid (HF3.out.trans hF4)
    clear hF4
    go_wp2_with fail
    refine (fold_writers A1 n c1 L key w4 (Kd.C_below HCa.out (HF4.out.below (fun _ _ h => h))) HO.out (by omega) HK.out).mono ?_
    rintro r w5 ⟨vw, rfl, hRw, hF5⟩
    obtain ⟨Aw, cw2, rfl⟩ := Kd.R_slice hRw
    have HCw := Lib.hid (Kd.R_reads' hRw).2.2
    have HF5 := Lib.hid (HF4.out.trans hF5)
    clear hRw hF5
    go_wp2_with fail
    refine (ref_log13 A2 (goodI L).length c2 (goodI L) key w5 (Kd.C_below HCb.out (HF5.out.below (fun _ _ h => h))) HGI.out (by have := HGL.out; omega) H8.out).mono ?_
    rintro r w6 ⟨vl, rfl, hRl, hF6⟩
    obtain ⟨Al, cl2, rfl⟩ := Kd.R_slice hRl
    have hCl := (Kd.R_reads' hRl).2.2
    rw [← runI_eq] at hCl ⊢
    have HCl := Lib.hid hCl
    have HCw6 := Lib.hid (Kd.C_below HCw.out (hF6.below (fun _ _ h => h)))
    have HF6 := Lib.hid (HF5.out.trans hF6)
    have hlb : (logOf (runI L).1 key).length ≤ 9223372036854775807 := by have h1 := logOf_len (runI L).1 key; have h2 := (runI_len HO.out).1; have := HLn.out; omega
    clear hRl hF6 hCl
    go_wp2_with fail
    refine (ref_sameLog Aw Al _ cw2 _ cl2 _ _ w6 HCw6.out HCl.out hlb hlb).mono ?_
    rintro r w7 ⟨rfl, hF7⟩
    rw [decide_eq_true rfl]
    have HF7 := Lib.hid (HF6.out.trans hF7)
    clear hF7 hlb
    go_wp2_with fail
    refine (fold_results A1 n c1 L w7 (Kd.C_below HCa.out (HF7.out.below (fun _ _ h => h))) HO.out (by omega)).mono ?_
    rintro r w8 ⟨vr, rfl, hRr, hF8⟩
    obtain ⟨Ar, cr, rfl⟩ := Kd.R_slice hRr
    have HCr := Lib.hid (Kd.R_reads' hRr).2.2
    have HF8 := Lib.hid (HF7.out.trans hF8)
    clear hRr hF8
    go_wp2_with fail
    refine (ref_results13 A2 (goodI L).length c2 (goodI L) w8 (Kd.C_below HCb.out (HF8.out.below (fun _ _ h => h))) HGI.out (by have := HGL.out; omega) HCc.out H8.out).mono ?_
    rintro r w9 ⟨vt, T, rfl, hRt, hT, hTo, hF9⟩
    obtain ⟨At9, ct, rfl⟩ := Kd.R_slice hRt
    have HCt := Lib.hid (Kd.R_reads' hRt).2.2
    have HCr9 := Lib.hid (Kd.C_below HCr.out (hF9.below (fun _ _ h => h)))
    have HF9 := Lib.hid (HF8.out.trans hF9)
    have hcn : ∀ x ∈ (runI L).2, CellC x.2.2 := by have := runI_canon HO.out L.length (Nat.le_refl _); rwa [List.take_length] at this
    have HCN := Lib.hid hcn
    have hTT : (runI L).2.map absR = T.map absR := by rw [absR_canon hcn, hT, runI_eq]
    have HTT := Lib.hid hTT
    have HTO := Lib.hid hTo
    clear hRt hF9 hcn hTT hTo hT
    go_wp2_with fail
    refine (same_results Ar At9 _ cr _ ct _ T w9 HCr9.out HCt.out HTT.out (fun x hx => (HCN.out x hx).1) HTO.out).mono ?_
    rintro r w10 ⟨rfl, hF10⟩
    have HF10 := Lib.hid (HF9.out.trans hF10)
    clear hF10
    go_wp2_with fail
    refine (works14 _).mono ?_
    rintro e w11 ⟨rfl, hF11⟩
    go_wp2_with fail
    go_ret
    exact ⟨rfl, (HF1.out.trans HF10.out).trans hF11⟩
end Go.Proofs.Ytoklncfdhlplkaa
