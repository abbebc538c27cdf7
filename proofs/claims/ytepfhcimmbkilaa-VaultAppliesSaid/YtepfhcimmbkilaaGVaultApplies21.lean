/- Texts of VaultApplies, merged (21 of 33): Dig13. -/
import Derived.Test.YtepfhcimmbkilaaGVaultApplies14
import Derived.Test.YtepfhcimmbkilaaGVaultApplies19
import Derived.Test.YtepfhcimmbkilaaGVaultApplies20
set_option linter.unusedVariables false
set_option linter.unusedSimpArgs false
/- The reference's Keys and Digest of items. -/
namespace Go.Proofs.Ytepfhcimmbkilaa
open Go.RowKit
open Go.Proofs.YtepfhcimmbkilaaW.PrintWords

noncomputable def keysN (H : List HE) (K : List ByteArray) : List ByteArray := K.filter fun s => (cellOf H s).1
theorem keysN_V (L : List Item) : KeysV (runB L).1 (keysN (runB L).1 (keysR (cmdsI L))) := by
  refine ⟨List.Pairwise.filter _ (keysR_rising _), fun s => ?_⟩
  unfold keysN
  rw [List.mem_filter, keysR_mem]
  constructor
  · exact fun h => h.2
  · intro h
    refine ⟨?_, h⟩
    obtain ⟨e, he, hk⟩ := List.mem_map.1 (found_in h)
    exact ⟨e.2.2, runB_mem he, hk⟩
theorem keysN_succ {H : List HE} {K : List ByteArray} {k : Nat} (h : k < K.length) : keysN H (K.take (k + 1)) = keysN H (K.take k) ++ (if (cellOf H (stx K k)).1 = true then [stx K k] else []) := by
  unfold keysN
  rw [take_stx h, List.filter_append]
  congr 1
  by_cases hc : (cellOf H (stx K k)).1 = true
  · rw [if_pos hc]; simp [hc]
  · rw [if_neg hc]; simp [hc]
theorem keysN_len (H : List HE) (K : List ByteArray) : (keysN H K).length ≤ K.length := List.length_filter_le _ _
theorem keysI_len {L : List Item} (h8 : ∀ it ∈ L, it.2.length ≤ 8) : (keysR (cmdsI L)).length ≤ 8 * L.length := by
  have h1 := keysR_take_len (L := cmdsI L) (cmdsI L).length (Nat.le_refl _)
  rw [List.take_length] at h1
  have h2 := cmdsI_len h8 L.length (Nat.le_refl _)
  rw [List.take_length] at h2
  omega
theorem runB_len8' : ∀ (L : List Item) (s : List HE × List Rs), (∀ it ∈ L, it.2.length ≤ 8) → (L.foldl stepB s).1.length ≤ s.1.length + 8 * L.length := by
  intro L
  induction L with
  | nil => intro s _; simp
  | cons it L ih =>
    intro s h
    rw [List.foldl_cons]
    have h1 := ih (stepB s it) (fun x hx => h x (List.mem_cons_of_mem _ hx))
    have h2 := h it (List.mem_cons_self ..)
    have h3 : (stepB s it).1.length = s.1.length + it.2.length := by show (s.1 ++ tagN it.1 it.2 it.2.length).length = _; rw [List.length_append, tagN_len]
    rw [List.length_cons]
    omega
theorem runB_len8 {L : List Item} (h : ∀ it ∈ L, it.2.length ≤ 8) : (runB L).1.length ≤ 8 * L.length := by
  have := runB_len8' L ([], []) h
  have h0 : (([], []) : List HE × List Rs).1.length = 0 := rfl
  rw [h0, Nat.zero_add] at this
  exact this
theorem field_fnd (f : Bool) (x : Nat) (w : World) : (Instr.field 53 (.agg #[.bool f, .float .f64 x]) 0).run Try.prog w = .ok (.bool f) w := by kernel_rfl
set_option maxRecDepth 100000 in
set_option maxHeartbeats 4000000 in
theorem ref_keys13 (A : Option Addr) (n c : Nat) (L : List Item) (w : World) (hC : itemK.C w A n L) (hL : ItemsGood L) (hn : n ≤ 1000) (h8 : ∀ it ∈ L, it.2.length ≤ 8) :
    Calls Try.prog 30 #[.slice A n c] w fun r w' => ∃ v ks, r = .returned v ∧ strK.R 9 w' w.heap.size (fun b => w.heap.size ≤ b) v ks ∧ KeysV (runB L).1 ks ∧ Fr (fun _ => False) w w' := by
  have HLn := Lib.hid (show L.length = n from hC.1)
  have HC := Lib.hid hC
  have HO := Lib.hid hL
  have H8 := Lib.hid h8
  clear hC hL h8
  go_enter Try.func30, Try.ntmps30
  go_wp2_with fail
  refine (ref_all13 A n c L w HC.out hn H8.out).mono ?_
  rintro r w1 ⟨v1, rfl, hR1, hF1⟩
  obtain ⟨A1, c1, rfl⟩ := Kd.R_slice hR1
  have hkl := keysI_len H8.out
  rw [HLn.out] at hkl
  have HKV := Lib.hid (keysN_V L)
  obtain ⟨K, hK⟩ : ∃ K, K = keysR (cmdsI L) := ⟨_, rfl⟩
  rw [← hK] at hR1 hkl HKV ⊢
  have HCK := Lib.hid (Kd.R_reads' hR1).2.2
  have HF1 := Lib.hid (hF1.alloc (.cells #[] 9))
  have HCK2 := Lib.hid (Kd.C_below HCK.out (((Fr.refl (fun _ => False) w1).alloc (.cells #[] 9)).below (fun _ _ h => h)))
  have HR0 := Lib.hid (Kd.R_mono (Kd.R_lower (R_empty strK 9 w1) hF1.size) (ok' := fun b => w.heap.size ≤ b ∧ w1.heap.size ≤ b) (fun b hb => ⟨Nat.le_trans hF1.size hb, hb⟩))
  have hs1 := hF1.size
  have HS1 := Lib.hid hs1
  clear hR1 hF1 hK hs1
  go_wp2_with fail
  go_loopw [4, 5] (fun u i wr => ∃ k : Nat, k ≤ K.length ∧ i = .int .i64 k ∧ strK.R 9 wr w.heap.size (fun b => w.heap.size ≤ b ∧ w1.heap.size ≤ b) u (keysN (runB L).1 (K.take k)) ∧ Fr (fun b => w1.heap.size ≤ b) w1 wr) (fun _ i _ => K.length - (intOf i).toNat)
  case atStart => exact ⟨0, Nat.zero_le _, rfl, HR0.out, (Fr.refl _ _).alloc _⟩
  case round =>
    obtain ⟨k, hk, rfl, hR, hG⟩ := hrel
    have HR := Lib.hid hR
    have HG := Lib.hid hG
    have HGw := Lib.hid (show Fr (fun _ => False) w wr from by
      have h0 := HF1.out
      refine (show Fr (fun _ => False) w w1 from ?_).trans' hG (fun i hi h => by have := HS1.out; omega)
      exact ⟨h0.os, h0.tape, h0.output, HS1.out, fun i hi hn => by have := h0.block i hi hn; rwa [Below.heap_alloc _ _ _ (by have := HS1.out; omega)] at this⟩)
    clear hR hG
    rcases Nat.lt_or_ge k K.length with hlt | hge
    · have hCK : strK.C wr A1 K.length K := by
        refine ReadsRow.imp_ HCK.out ⟨HG.out.os, HG.out.tape, HG.out.output, HG.out.size, fun i hi => HG.out.block i hi (by omega)⟩ (fun _ _ h => h)
      obtain ⟨b, off, rfl, h0⟩ := strs_at hCK hlt
      have HSU := Lib.hid (keysN_succ (H := (runB L).1) hlt)
      have HKL := Lib.hid (Nat.le_trans (keysN_len (runB L).1 (K.take k)) (by rw [List.length_take]; omega : (K.take k).length ≤ K.length))
      obtain ⟨s, hs⟩ : ∃ s, s = stx K k := ⟨_, rfl⟩
      rw [← hs] at h0 HSU
      clear hCK hs
      have HH0 := Lib.hid h0
      go_wp2_with fail
      refine (ref_cell13 A n c L s wr (Kd.C_below HC.out (HGw.out.below (fun _ _ h => h))) HO.out (by omega)).mono ?_
      rintro r w2 ⟨⟨uf, ux⟩, rfl, hu, huo, hF2⟩
      have hfd : uf = (cellOf (runB L).1 s).1 := by
        rw [← hu]
        cases uf <;> rfl
      have hfl := field_fnd uf ux
      have HFD := Lib.hid hfd
      have HG2 := Lib.hid (HG.out.trans (hF2.mono (fun _ _ h => h.elim)))
      have HR2 := Lib.hid (Kd.R_below HR.out (hF2.below (fun _ _ h => h)))
      have HGw2 := Lib.hid (HGw.out.trans hF2)
      have h0 := hF2.cell HH0.out (fun h => h)
      clear hu huo hF2 hfd
      cases uf
      · go_wp2_with fail
        go_roundw
        case rel =>
          refine ⟨k + 1, by omega, by go_num, ?_, HG2.out⟩
          rw [HSU.out, if_neg (by rw [← HFD.out]; decide), List.append_nil]
          exact HR2.out
        case measure => simp [intOf]; omega
      · go_wp2_with (at_builtin; refine Kd.R_append strK w.heap.size rfl (.tmp 22) (.tmp 27) 43 9 _ 16 rfl Try.underlying43 info_str rfl (by decide) (by decide) u4 (keysN (runB L).1 (K.take k)) s (strCells s) (fun b => w.heap.size ≤ b ∧ w1.heap.size ≤ b) (fun _ => False) (by rfl) (by rfl) rfl (fun _ h => h.elim) (fun b hb => ⟨Nat.le_trans HGw2.out.size hb, Nat.le_trans HG2.out.size hb⟩) HR2.out (Below.refl _ _) HGw2.out.size (by have := HKL.out; omega) ?_; intro v1 w3 hR3 hB3 hg3 hat3; have HR3 := Lib.hid hR3; have HG3 := Lib.hid hg3; clear hR3 hB3 hg3 hat3)
        go_roundw
        case rel =>
          refine ⟨k + 1, by omega, by go_num, ?_, HG2.out.trans' (Fr.of_grown HG3.out) (fun i hi h => (HR2.out.1 i h.symm).2)⟩
          rw [HSU.out, if_pos (by rw [← HFD.out])]
          exact HR3.out
        case measure => simp [intOf]; omega
    · obtain rfl : k = K.length := by omega
      have tkk : decide (K.length < K.length) = false := decide_eq_false (by omega)
      have hkv := HKV.out
      have HRf := Lib.hid (show strK.R 9 wr w.heap.size (fun b => w.heap.size ≤ b) u4 (keysN (runB L).1 K) from by have := HR.out; rw [List.take_length] at this; exact Kd.R_mono this (fun b hb => hb.1))
      clear hkv
      go_wp2_with fail
      go_ret
      exact ⟨_, _, rfl, HRf.out, HKV.out, HGw.out⟩
set_option maxRecDepth 100000 in
set_option maxHeartbeats 8000000 in
theorem ref_digest13 (A : Option Addr) (n c : Nat) (L : List Item) (w : World) (hC : itemK.C w A n L) (hL : ItemsGood L) (hn : n ≤ 1000) (h8 : ∀ it ∈ L, it.2.length ≤ 8) :
    Calls Try.prog 33 #[.slice A n c] w fun r w' => ∃ ks, KeysV (runB L).1 ks ∧ r = .returned (.int .u64 (digV (runB L).1 ks)) ∧ Fr (fun _ => False) w w' := by
  have HLn := Lib.hid (show L.length = n from hC.1)
  have HC := Lib.hid hC
  have HO := Lib.hid hL
  have H8 := Lib.hid h8
  clear hC hL h8
  go_enter Try.func33, Try.ntmps33
  go_wp2_with fail
  refine (ref_keys13 A n c L w HC.out HO.out hn H8.out).mono ?_
  rintro r w1 ⟨v1, ks, rfl, hR1, hK, hF1⟩
  obtain ⟨A1, c1, rfl⟩ := Kd.R_slice hR1
  have hkb : ks.length ≤ 8 * n := by
    have h1 := hK.len
    have h2 := runB_len8 H8.out
    rw [HLn.out] at h2
    omega
  have HCK := Lib.hid (Kd.R_reads' hR1).2.2
  have HK := Lib.hid hK
  have HF1 := Lib.hid hF1
  clear hR1 hK hF1
  go_wp2_with fail
  go_loopw [3, 5] (fun u i wr => ∃ k : Nat, k ≤ ks.length ∧ i = .int .i64 k ∧ u = .int .u64 (digV (runB L).1 (ks.take k)) ∧ Fr (fun _ => False) w1 wr) (fun _ i _ => ks.length - (intOf i).toNat)
  case atStart => exact ⟨0, Nat.zero_le _, rfl, rfl, Fr.refl _ _⟩
  case round =>
    obtain ⟨k, hk, rfl, rfl, hG⟩ := hrel
    have HG := Lib.hid hG
    clear hG
    rcases Nat.lt_or_ge k ks.length with hlt | hge
    · obtain ⟨b, off, rfl, h0w⟩ := strs_at HCK.out hlt
      have hfd := (HK.out.mem _).1 (stx_mem hlt)
      obtain ⟨s, hs⟩ : ∃ s, s = stx ks k := ⟨_, rfl⟩
      have HTK := Lib.hid (show ks.take (k + 1) = ks.take k ++ [s] from by rw [take_stx hlt, hs])
      rw [← hs] at h0w hfd
      have hsz : s.size ≤ 12 := (found_key hfd).2.2
      have HSZ := Lib.hid hsz
      have HFD := Lib.hid hfd
      have kb := fun W => print_bytes (P := Try.prog) 9 79 5 Try.underlying9 Try.underlying79 Try.underlying5 s W
      have hfl := fun f x W => field_val f x W
      obtain ⟨St, hSt⟩ : ∃ St : World → Prop, St = Fr (fun _ => False) wr := ⟨_, rfl⟩
      have HT := Lib.hid (show ∀ w', Fr (fun _ => False) wr w' → At St w' from fun w' h => by unfold At; rw [hSt]; exact h)
      have l0 : ∀ w', At St w' → w'.cell? ⟨b, off + k, none⟩ = some (.string s) := fun w' h => by replace h := h.out; rw [hSt] at h; exact (HG.out.trans h).cell h0w (fun h => h)
      have hFr := (Fr.refl (fun _ => False) wr).drew
      have hT0 := HT.out wr.drew hFr
      have HGw := Lib.hid (HF1.out.trans HG.out)
      clear hSt h0w hs hsz hfd
      go_wp2_with fail
      refine rt_start [] (At St) 17 (by kernel_rfl) rfl ?_
      generalize wr.drew = Wn at hFr hT0 ⊢
      refine rt_free 0 (v := ?_) rfl (by kernel_rfl) (by kernel_rfl) (by kernel_rfl) (by kernel_rfl) (fun _ _ _ h => h) (by rfl) (fun _ => by first | assumption | exact HS0 _ rfl | exact HT.out _ (by repeat (first | exact Fr.refl _ _ | apply Fr.drew | refine Fr.alloc ?_ _))) ?_ ?_
      rotate_left 1
      · intro w; go_simp <;> with_reducible rfl
      try simp only [Act.put, List.setIfInBounds_toArray, List.set_cons_zero, List.set_cons_succ]
      refine rt_free 1 (v := ?_) rfl (by kernel_rfl) (by kernel_rfl) (by kernel_rfl) (by kernel_rfl) (fun _ _ _ h => h) (by rfl) (fun _ => by first | assumption | exact HS0 _ rfl | exact HT.out _ (by repeat (first | exact Fr.refl _ _ | apply Fr.drew | refine Fr.alloc ?_ _))) ?_ ?_
      rotate_left 1
      · intro w; go_simp <;> with_reducible rfl
      try simp only [Act.put, List.setIfInBounds_toArray, List.set_cons_zero, List.set_cons_succ]
      refine rt_free 2 (v := ?_) rfl (by kernel_rfl) (by kernel_rfl) (by kernel_rfl) (by kernel_rfl) (fun _ _ _ h => h) (by rfl) (fun _ => by first | assumption | exact HS0 _ rfl | exact HT.out _ (by repeat (first | exact Fr.refl _ _ | apply Fr.drew | refine Fr.alloc ?_ _))) ?_ ?_
      rotate_left 1
      · intro w; go_simp <;> with_reducible rfl
      try simp only [Act.put, List.setIfInBounds_toArray, List.set_cons_zero, List.set_cons_succ]
      refine rt_take 3 (v := ?_) rfl (by kernel_rfl) (by kernel_rfl) (by kernel_rfl) (by kernel_rfl) (fun _ _ _ h => h) (by rfl) (by first | assumption | exact HS0 _ rfl | exact HT.out _ (by repeat (first | exact Fr.refl _ _ | apply Fr.drew | refine Fr.alloc ?_ _))) ?_ ?_
      rotate_left 1
      · intro w hSw; go_simp <;> with_reducible rfl
      try simp only [Act.put, List.setIfInBounds_toArray, List.set_cons_zero, List.set_cons_succ]
      refine rt_free 5 (v := ?_) rfl (by kernel_rfl) (by kernel_rfl) (by kernel_rfl) (by kernel_rfl) (fun _ _ _ h => h) (by rfl) (fun _ => by first | assumption | exact HS0 _ rfl | exact HT.out _ (by repeat (first | exact Fr.refl _ _ | apply Fr.drew | refine Fr.alloc ?_ _))) ?_ ?_
      rotate_left 1
      · intro w; go_simp <;> with_reducible rfl
      try simp only [Act.put, List.setIfInBounds_toArray, List.set_cons_zero, List.set_cons_succ]
      refine rt_free 6 (v := ?_) rfl (by kernel_rfl) (by kernel_rfl) (by kernel_rfl) (by kernel_rfl) (fun _ _ _ h => h) (by rfl) (fun _ => by first | assumption | exact HS0 _ rfl | exact HT.out _ (by repeat (first | exact Fr.refl _ _ | apply Fr.drew | refine Fr.alloc ?_ _))) ?_ ?_
      rotate_left 1
      · intro w; go_simp <;> with_reducible rfl
      try simp only [Act.put, List.setIfInBounds_toArray, List.set_cons_zero, List.set_cons_succ]
      refine rt_free 7 (v := ?_) rfl (by kernel_rfl) (by kernel_rfl) (by kernel_rfl) (by kernel_rfl) (fun _ _ _ h => h) (by rfl) (fun _ => by first | assumption | exact HS0 _ rfl | exact HT.out _ (by repeat (first | exact Fr.refl _ _ | apply Fr.drew | refine Fr.alloc ?_ _))) ?_ ?_
      rotate_left 1
      · intro w; go_simp <;> with_reducible rfl
      try simp only [Act.put, List.setIfInBounds_toArray, List.set_cons_zero, List.set_cons_succ]
      refine rt_free 8 (v := ?_) rfl (by kernel_rfl) (by kernel_rfl) (by kernel_rfl) (by kernel_rfl) (fun _ _ _ h => h) (by rfl) (fun _ => by first | assumption | exact HS0 _ rfl | exact HT.out _ (by repeat (first | exact Fr.refl _ _ | apply Fr.drew | refine Fr.alloc ?_ _))) ?_ ?_
      rotate_left 1
      · intro w; go_simp <;> with_reducible rfl
      try simp only [Act.put, List.setIfInBounds_toArray, List.set_cons_zero, List.set_cons_succ]
      refine rt_take 9 (v := ?_) rfl (by kernel_rfl) (by kernel_rfl) (by kernel_rfl) (by kernel_rfl) (fun _ _ _ h => h) (by rfl) (by first | assumption | exact HS0 _ rfl | exact HT.out _ (by repeat (first | exact Fr.refl _ _ | apply Fr.drew | refine Fr.alloc ?_ _))) ?_ ?_
      rotate_left 1
      · intro w hSw; go_simp <;> with_reducible rfl
      try simp only [Act.put, List.setIfInBounds_toArray, List.set_cons_zero, List.set_cons_succ]
      refine rt_ready [4, 10] (by kernel_rfl) (by simp) ?_
      refine AllNextt.cons rfl (fun K hK => ?_) ?_
      · skip
        go_simp
        have hCv := CvB.made Wn s
        have hFb : Fr (fun _ => False) Wn (Lib.bytesWorld Wn 5 s) := Fr.of_below (bytes_below (Below.refl Wn.heap.size Wn) (Nat.le_refl _) 5 s)
        try (replace hRd := RdB.fr hRd hFb (fun _ _ h => h))
        have hgx := hFr.size
        replace hFr := hFr.trans hFb
        clear hFb
        generalize grownCap Wn s.size 0 5 = cap at hCv ⊢
        generalize Wn.heap.size = gx at hCv hgx ⊢
        first | (generalize Lib.bytesWorld Wn 5 s = Wn at hCv hFr hRd ⊢) | (generalize Lib.bytesWorld Wn 5 s = Wn at hCv hFr ⊢)
        have hTn := HT.out _ hFr
        refine hK.out (At St) _ _ (fun _ h => h) (fun _ => by (assumption)) ?_
        clear hK K
        try simp only [Act.put, List.setIfInBounds_toArray, List.set_cons_zero, List.set_cons_succ]
        refine rt_one 10 rfl (by kernel_rfl) (fun K hK => ?_)
        go_simp
        refine (ref_cell13 A n c L s Wn (Kd.C_below HC.out ((HGw.out.trans hFr).below (fun _ _ h => h))) HO.out (by omega)).mono ?_
        rintro r Wn ⟨u, rfl, hu, huo, hF⟩
        try (replace hCv := CvB.fr hCv hF (fun h => h))
        replace hFr := hFr.trans hF
        have hTn := HT.out _ hFr
        have HU := Lib.hid hu
        have HUO := Lib.hid huo
        clear hu huo hF
        go_wp2_with fail
        refine hK.out (At St) _ _ (fun _ h => h) (fun _ => by (assumption)) ?_
        clear hK K
        try simp only [Act.put, List.setIfInBounds_toArray, List.set_cons_zero, List.set_cons_succ]
        refine rt_free 11 (v := ?_) rfl (by kernel_rfl) (by kernel_rfl) (by kernel_rfl) (by kernel_rfl) (fun _ _ _ h => h) (by rfl) (fun _ => by first | assumption | exact HS0 _ rfl | exact HT.out _ (by repeat (first | exact Fr.refl _ _ | apply Fr.drew | refine Fr.alloc ?_ _))) ?_ ?_
        rotate_left 1
        · intro w; go_simp <;> with_reducible rfl
        try simp only [Act.put, List.setIfInBounds_toArray, List.set_cons_zero, List.set_cons_succ]
        refine rt_one 12 rfl (by kernel_rfl) (fun K hK => ?_)
        go_simp
        refine (ref_bits11 u.2 HUO.out _).mono ?_
        rintro r Wx ⟨rfl, rfl⟩
        go_wp2_with fail
        refine hK.out (At St) _ _ (fun _ h => h) (fun _ => by (assumption)) ?_
        clear hK K
        try simp only [Act.put, List.setIfInBounds_toArray, List.set_cons_zero, List.set_cons_succ]
        refine rt_one 13 rfl (by kernel_rfl) (fun K hK => ?_)
        go_simp
        refine (ref_big (canonP u.2) Wn (canon_lt HUO.out)).mono ?_
        rintro r Wn ⟨v8, rfl, hO8, hF⟩
        obtain ⟨x8, hx8⟩ : ∃ x, x = be8 (canonP u.2) := ⟨_, rfl⟩
        rw [← hx8] at hO8
        have HX8 := Lib.hid hx8
        clear hx8
        obtain ⟨A8, c8, rfl, hRd⟩ := hO8.reads
        try (replace hCv := CvB.fr hCv hF (fun h => h))
        replace hFr := hFr.trans hF
        have hTn := HT.out _ hFr
        clear hO8 hF
        go_wp2_with fail
        refine hK.out (At St) _ _ (fun _ h => h) (fun _ => by (assumption)) ?_
        clear hK K
        try simp only [Act.put, List.setIfInBounds_toArray, List.set_cons_zero, List.set_cons_succ]
        refine rt_one 14 rfl (by kernel_rfl) (fun K hK => ?_)
        obtain ⟨A9, c9, Wn, hr, hR9, hg9⟩ := run_append_cv 79 x8 A8 c8 hCv hRd (by have := HSZ.out; rw [HX8.out]; show s.size + 8 ≤ _; omega)
        obtain ⟨x9, hx9⟩ : ∃ x, x = bytesOf s ++ x8 := ⟨_, rfl⟩
        rw [← hx9] at hr hR9
        have HX9 := Lib.hid hx9
        clear hx9
        refine step_builtin2 rfl rfl rfl rfl (bi_append hr) ?_
        replace hFr := hFr.trans' (Fr.of_grown hg9) (fun i hi h => by have := Option.some.inj h; omega)
        have hTn := HT.out _ hFr
        clear hg9 hr hCv hRd
        refine hK.out (At St) _ _ (fun _ h => h) (fun _ => by (assumption)) ?_
        clear hK K
        try simp only [Act.put, List.setIfInBounds_toArray, List.set_cons_zero, List.set_cons_succ]
        refine rt_one 15 rfl (by kernel_rfl) (fun K hK => ?_)
        go_simp
        refine (ref_of A9 x9 c9 Wn hR9 (by rw [HX9.out, HX8.out]; exact (bytes_byt s).append (beTo_byt _ 8)) (by have := HSZ.out; have h1 := bytesOf_length s; rw [HX9.out, HX8.out, List.length_append, h1]; show s.size + 8 ≤ _; omega)).mono ?_
        rintro r Wx ⟨rfl, rfl⟩
        go_wp2_with fail
        refine hK.out (At St) _ _ (fun _ h => h) (fun _ => by (assumption)) ?_
        clear hK K
        try simp only [Act.put, List.setIfInBounds_toArray, List.set_cons_zero, List.set_cons_succ]
        refine rt_free 16 (v := ?_) rfl (by kernel_rfl) (by kernel_rfl) (by kernel_rfl) (by kernel_rfl) (fun _ _ _ h => h) (by rfl) (fun _ => by first | assumption | exact HS0 _ rfl | exact HT.out _ (by repeat (first | exact Fr.refl _ _ | apply Fr.drew | refine Fr.alloc ?_ _))) ?_ ?_
        rotate_left 1
        · intro w; go_simp <;> with_reducible rfl
        try simp only [Act.put, List.setIfInBounds_toArray, List.set_cons_zero, List.set_cons_succ]
        refine rt_done (by kernel_rfl) ?_
        have ho : dOf x9 = oneV (runB L).1 s := by
          rw [HX9.out, HX8.out]
          unfold oneV
          have h1 := HFD.out
          rw [← HU.out] at h1 ⊢
          obtain ⟨uf, ux⟩ := u
          cases uf
          · cases h1
          · show _ = dOf (bytesOf s ++ be8 (canonP (canonP ux)))
            rw [canon_canon]
        rw [ho]
        have hol : oneV (runB L).1 s < 18446744073709551616 := dOf_lt _
        have HOL := Lib.hid hol
        have HFr := Lib.hid hFr
        clear ho hol hFr
        go_wp2_with fail
        refine (ref_big (digV (runB L).1 (ks.take k)) _ (digV_lt _ _)).mono ?_
        rintro r W2 ⟨v2, rfl, hO2, hF2⟩
        have HF2 := Lib.hid (HFr.out.trans hF2)
        have HFS := Lib.hid (show wr.heap.size ≤ Wn.heap.size from HFr.out.size)
        have HS2 := Lib.hid hF2.size
        have HO2 := Lib.hid hO2
        clear hO2 hF2
        go_wp2_with fail
        refine (ref_big (oneV (runB L).1 s) W2 HOL.out).mono ?_
        rintro r W3 ⟨v3, rfl, hO3, hF3⟩
        obtain ⟨A3, c3, rfl, hR3⟩ := hO3.reads
        have HO2' := Lib.hid (HO2.out.fr hF3 (fun _ _ _ h => h))
        have HF3 := Lib.hid (HF2.out.trans hF3)
        have HBS := Lib.hid (show Wn.heap.size ≤ W3.heap.size from Nat.le_trans HS2.out hF3.size)
        clear hO3 hF3
        obtain ⟨x2, hx2⟩ : ∃ x, x = be8 (digV (runB L).1 (ks.take k)) := ⟨_, rfl⟩
        obtain ⟨x3, hx3⟩ : ∃ x, x = be8 (oneV (runB L).1 s) := ⟨_, rfl⟩
        rw [← hx2] at HO2'
        rw [← hx3] at hR3 ⊢
        have HX2 := Lib.hid hx2
        have HX3 := Lib.hid hx3
        have HR3 := Lib.hid hR3
        clear hx2 hx3 hR3
        go_wp2_with (at_builtin; refine append8_row Wn.heap.size rfl (.tmp 32) (.tmp 34) rfl v2 x2 x3 A3 c3 (by rfl) (by rfl) HO2'.out HR3.out HBS.out (by rw [HX2.out, HX3.out]; show 8 + 8 ≤ _; omega) ?_; intro v4 w4 hO4 hF4; have HO4 := Lib.hid hO4; have HF4 := Lib.hid hF4; clear hO4 hF4)
        obtain ⟨A4, c4, rfl, hR4⟩ := HO4.out.reads
        have HR4 := Lib.hid hR4
        obtain ⟨x4, hx4⟩ : ∃ x, x = x2 ++ x3 := ⟨_, rfl⟩
        rw [← hx4] at HR4 ⊢
        have HX4 := Lib.hid hx4
        clear hR4 hx4
        refine (ref_of A4 x4 c4 w4 HR4.out (by rw [HX4.out, HX2.out, HX3.out]; exact (beTo_byt _ 8).append (beTo_byt _ 8)) (by rw [HX4.out, HX2.out, HX3.out, List.length_append]; show 8 + 8 ≤ _; omega)).mono ?_
        rintro r w5 ⟨rfl, rfl⟩
        have hdn : dOf x4 = digV (runB L).1 (ks.take (k + 1)) := by rw [HX4.out, HX2.out, HX3.out, HTK.out, digV_snoc]; rfl
        rw [hdn]
        clear hdn
        go_wp2_with fail
        go_roundw
        case rel => exact ⟨k + 1, by omega, by go_num, rfl, HG.out.trans (HF3.out.trans' HF4.out (fun i hi h => by have h1 := HFS.out; have h2 := h.1; omega))⟩
        case measure => simp [intOf]; omega
      refine AllNextt.cons rfl (fun K hK => ?_) ?_
      · skip
        go_simp
        refine (ref_cell13 A n c L s Wn (Kd.C_below HC.out ((HGw.out.trans hFr).below (fun _ _ h => h))) HO.out (by omega)).mono ?_
        rintro r Wn ⟨u, rfl, hu, huo, hF⟩
        try (replace hCv := CvB.fr hCv hF (fun h => h))
        replace hFr := hFr.trans hF
        have hTn := HT.out _ hFr
        have HU := Lib.hid hu
        have HUO := Lib.hid huo
        clear hu huo hF
        go_wp2_with fail
        refine hK.out (At St) _ _ (fun _ h => h) (fun _ => by (assumption)) ?_
        clear hK K
        try simp only [Act.put, List.setIfInBounds_toArray, List.set_cons_zero, List.set_cons_succ]
        refine rt_free 11 (v := ?_) rfl (by kernel_rfl) (by kernel_rfl) (by kernel_rfl) (by kernel_rfl) (fun _ _ _ h => h) (by rfl) (fun _ => by first | assumption | exact HS0 _ rfl | exact HT.out _ (by repeat (first | exact Fr.refl _ _ | apply Fr.drew | refine Fr.alloc ?_ _))) ?_ ?_
        rotate_left 1
        · intro w; go_simp <;> with_reducible rfl
        try simp only [Act.put, List.setIfInBounds_toArray, List.set_cons_zero, List.set_cons_succ]
        refine rt_ready [4, 12] (by kernel_rfl) (by simp) ?_
        refine AllNextt.cons rfl (fun K hK => ?_) ?_
        · skip
          go_simp
          have hCv := CvB.made Wn s
          have hFb : Fr (fun _ => False) Wn (Lib.bytesWorld Wn 5 s) := Fr.of_below (bytes_below (Below.refl Wn.heap.size Wn) (Nat.le_refl _) 5 s)
          try (replace hRd := RdB.fr hRd hFb (fun _ _ h => h))
          have hgx := hFr.size
          replace hFr := hFr.trans hFb
          clear hFb
          generalize grownCap Wn s.size 0 5 = cap at hCv ⊢
          generalize Wn.heap.size = gx at hCv hgx ⊢
          first | (generalize Lib.bytesWorld Wn 5 s = Wn at hCv hFr hRd ⊢) | (generalize Lib.bytesWorld Wn 5 s = Wn at hCv hFr ⊢)
          have hTn := HT.out _ hFr
          refine hK.out (At St) _ _ (fun _ h => h) (fun _ => by (assumption)) ?_
          clear hK K
          try simp only [Act.put, List.setIfInBounds_toArray, List.set_cons_zero, List.set_cons_succ]
          refine rt_one 12 rfl (by kernel_rfl) (fun K hK => ?_)
          go_simp
          refine (ref_bits11 u.2 HUO.out _).mono ?_
          rintro r Wx ⟨rfl, rfl⟩
          go_wp2_with fail
          refine hK.out (At St) _ _ (fun _ h => h) (fun _ => by (assumption)) ?_
          clear hK K
          try simp only [Act.put, List.setIfInBounds_toArray, List.set_cons_zero, List.set_cons_succ]
          refine rt_one 13 rfl (by kernel_rfl) (fun K hK => ?_)
          go_simp
          refine (ref_big (canonP u.2) Wn (canon_lt HUO.out)).mono ?_
          rintro r Wn ⟨v8, rfl, hO8, hF⟩
          obtain ⟨x8, hx8⟩ : ∃ x, x = be8 (canonP u.2) := ⟨_, rfl⟩
          rw [← hx8] at hO8
          have HX8 := Lib.hid hx8
          clear hx8
          obtain ⟨A8, c8, rfl, hRd⟩ := hO8.reads
          try (replace hCv := CvB.fr hCv hF (fun h => h))
          replace hFr := hFr.trans hF
          have hTn := HT.out _ hFr
          clear hO8 hF
          go_wp2_with fail
          refine hK.out (At St) _ _ (fun _ h => h) (fun _ => by (assumption)) ?_
          clear hK K
          try simp only [Act.put, List.setIfInBounds_toArray, List.set_cons_zero, List.set_cons_succ]
          refine rt_one 14 rfl (by kernel_rfl) (fun K hK => ?_)
          obtain ⟨A9, c9, Wn, hr, hR9, hg9⟩ := run_append_cv 79 x8 A8 c8 hCv hRd (by have := HSZ.out; rw [HX8.out]; show s.size + 8 ≤ _; omega)
          obtain ⟨x9, hx9⟩ : ∃ x, x = bytesOf s ++ x8 := ⟨_, rfl⟩
          rw [← hx9] at hr hR9
          have HX9 := Lib.hid hx9
          clear hx9
          refine step_builtin2 rfl rfl rfl rfl (bi_append hr) ?_
          replace hFr := hFr.trans' (Fr.of_grown hg9) (fun i hi h => by have := Option.some.inj h; omega)
          have hTn := HT.out _ hFr
          clear hg9 hr hCv hRd
          refine hK.out (At St) _ _ (fun _ h => h) (fun _ => by (assumption)) ?_
          clear hK K
          try simp only [Act.put, List.setIfInBounds_toArray, List.set_cons_zero, List.set_cons_succ]
          refine rt_one 15 rfl (by kernel_rfl) (fun K hK => ?_)
          go_simp
          refine (ref_of A9 x9 c9 Wn hR9 (by rw [HX9.out, HX8.out]; exact (bytes_byt s).append (beTo_byt _ 8)) (by have := HSZ.out; have h1 := bytesOf_length s; rw [HX9.out, HX8.out, List.length_append, h1]; show s.size + 8 ≤ _; omega)).mono ?_
          rintro r Wx ⟨rfl, rfl⟩
          go_wp2_with fail
          refine hK.out (At St) _ _ (fun _ h => h) (fun _ => by (assumption)) ?_
          clear hK K
          try simp only [Act.put, List.setIfInBounds_toArray, List.set_cons_zero, List.set_cons_succ]
          refine rt_free 16 (v := ?_) rfl (by kernel_rfl) (by kernel_rfl) (by kernel_rfl) (by kernel_rfl) (fun _ _ _ h => h) (by rfl) (fun _ => by first | assumption | exact HS0 _ rfl | exact HT.out _ (by repeat (first | exact Fr.refl _ _ | apply Fr.drew | refine Fr.alloc ?_ _))) ?_ ?_
          rotate_left 1
          · intro w; go_simp <;> with_reducible rfl
          try simp only [Act.put, List.setIfInBounds_toArray, List.set_cons_zero, List.set_cons_succ]
          refine rt_done (by kernel_rfl) ?_
          have ho : dOf x9 = oneV (runB L).1 s := by
            rw [HX9.out, HX8.out]
            unfold oneV
            have h1 := HFD.out
            rw [← HU.out] at h1 ⊢
            obtain ⟨uf, ux⟩ := u
            cases uf
            · cases h1
            · show _ = dOf (bytesOf s ++ be8 (canonP (canonP ux)))
              rw [canon_canon]
          rw [ho]
          have hol : oneV (runB L).1 s < 18446744073709551616 := dOf_lt _
          have HOL := Lib.hid hol
          have HFr := Lib.hid hFr
          clear ho hol hFr
          go_wp2_with fail
          refine (ref_big (digV (runB L).1 (ks.take k)) _ (digV_lt _ _)).mono ?_
          rintro r W2 ⟨v2, rfl, hO2, hF2⟩
          have HF2 := Lib.hid (HFr.out.trans hF2)
          have HFS := Lib.hid (show wr.heap.size ≤ Wn.heap.size from HFr.out.size)
          have HS2 := Lib.hid hF2.size
          have HO2 := Lib.hid hO2
          clear hO2 hF2
          go_wp2_with fail
          refine (ref_big (oneV (runB L).1 s) W2 HOL.out).mono ?_
          rintro r W3 ⟨v3, rfl, hO3, hF3⟩
          obtain ⟨A3, c3, rfl, hR3⟩ := hO3.reads
          have HO2' := Lib.hid (HO2.out.fr hF3 (fun _ _ _ h => h))
          have HF3 := Lib.hid (HF2.out.trans hF3)
          have HBS := Lib.hid (show Wn.heap.size ≤ W3.heap.size from Nat.le_trans HS2.out hF3.size)
          clear hO3 hF3
          obtain ⟨x2, hx2⟩ : ∃ x, x = be8 (digV (runB L).1 (ks.take k)) := ⟨_, rfl⟩
          obtain ⟨x3, hx3⟩ : ∃ x, x = be8 (oneV (runB L).1 s) := ⟨_, rfl⟩
          rw [← hx2] at HO2'
          rw [← hx3] at hR3 ⊢
          have HX2 := Lib.hid hx2
          have HX3 := Lib.hid hx3
          have HR3 := Lib.hid hR3
          clear hx2 hx3 hR3
          go_wp2_with (at_builtin; refine append8_row Wn.heap.size rfl (.tmp 32) (.tmp 34) rfl v2 x2 x3 A3 c3 (by rfl) (by rfl) HO2'.out HR3.out HBS.out (by rw [HX2.out, HX3.out]; show 8 + 8 ≤ _; omega) ?_; intro v4 w4 hO4 hF4; have HO4 := Lib.hid hO4; have HF4 := Lib.hid hF4; clear hO4 hF4)
          obtain ⟨A4, c4, rfl, hR4⟩ := HO4.out.reads
          have HR4 := Lib.hid hR4
          obtain ⟨x4, hx4⟩ : ∃ x, x = x2 ++ x3 := ⟨_, rfl⟩
          rw [← hx4] at HR4 ⊢
          have HX4 := Lib.hid hx4
          clear hR4 hx4
          refine (ref_of A4 x4 c4 w4 HR4.out (by rw [HX4.out, HX2.out, HX3.out]; exact (beTo_byt _ 8).append (beTo_byt _ 8)) (by rw [HX4.out, HX2.out, HX3.out, List.length_append]; show 8 + 8 ≤ _; omega)).mono ?_
          rintro r w5 ⟨rfl, rfl⟩
          have hdn : dOf x4 = digV (runB L).1 (ks.take (k + 1)) := by rw [HX4.out, HX2.out, HX3.out, HTK.out, digV_snoc]; rfl
          rw [hdn]
          clear hdn
          go_wp2_with fail
          go_roundw
          case rel => exact ⟨k + 1, by omega, by go_num, rfl, HG.out.trans (HF3.out.trans' HF4.out (fun i hi h => by have h1 := HFS.out; have h2 := h.1; omega))⟩
          case measure => simp [intOf]; omega
        refine AllNextt.cons rfl (fun K hK => ?_) ?_
        · skip
          go_simp
          refine (ref_bits11 u.2 HUO.out _).mono ?_
          rintro r Wx ⟨rfl, rfl⟩
          go_wp2_with fail
          refine hK.out (At St) _ _ (fun _ h => h) (fun _ => by (assumption)) ?_
          clear hK K
          try simp only [Act.put, List.setIfInBounds_toArray, List.set_cons_zero, List.set_cons_succ]
          refine rt_ready [4, 13] (by kernel_rfl) (by simp) ?_
          refine AllNextt.cons rfl (fun K hK => ?_) ?_
          · skip
            go_simp
            have hCv := CvB.made Wn s
            have hFb : Fr (fun _ => False) Wn (Lib.bytesWorld Wn 5 s) := Fr.of_below (bytes_below (Below.refl Wn.heap.size Wn) (Nat.le_refl _) 5 s)
            try (replace hRd := RdB.fr hRd hFb (fun _ _ h => h))
            have hgx := hFr.size
            replace hFr := hFr.trans hFb
            clear hFb
            generalize grownCap Wn s.size 0 5 = cap at hCv ⊢
            generalize Wn.heap.size = gx at hCv hgx ⊢
            first | (generalize Lib.bytesWorld Wn 5 s = Wn at hCv hFr hRd ⊢) | (generalize Lib.bytesWorld Wn 5 s = Wn at hCv hFr ⊢)
            have hTn := HT.out _ hFr
            refine hK.out (At St) _ _ (fun _ h => h) (fun _ => by (assumption)) ?_
            clear hK K
            try simp only [Act.put, List.setIfInBounds_toArray, List.set_cons_zero, List.set_cons_succ]
            refine rt_one 13 rfl (by kernel_rfl) (fun K hK => ?_)
            go_simp
            refine (ref_big (canonP u.2) Wn (canon_lt HUO.out)).mono ?_
            rintro r Wn ⟨v8, rfl, hO8, hF⟩
            obtain ⟨x8, hx8⟩ : ∃ x, x = be8 (canonP u.2) := ⟨_, rfl⟩
            rw [← hx8] at hO8
            have HX8 := Lib.hid hx8
            clear hx8
            obtain ⟨A8, c8, rfl, hRd⟩ := hO8.reads
            try (replace hCv := CvB.fr hCv hF (fun h => h))
            replace hFr := hFr.trans hF
            have hTn := HT.out _ hFr
            clear hO8 hF
            go_wp2_with fail
            refine hK.out (At St) _ _ (fun _ h => h) (fun _ => by (assumption)) ?_
            clear hK K
            try simp only [Act.put, List.setIfInBounds_toArray, List.set_cons_zero, List.set_cons_succ]
            refine rt_one 14 rfl (by kernel_rfl) (fun K hK => ?_)
            obtain ⟨A9, c9, Wn, hr, hR9, hg9⟩ := run_append_cv 79 x8 A8 c8 hCv hRd (by have := HSZ.out; rw [HX8.out]; show s.size + 8 ≤ _; omega)
            obtain ⟨x9, hx9⟩ : ∃ x, x = bytesOf s ++ x8 := ⟨_, rfl⟩
            rw [← hx9] at hr hR9
            have HX9 := Lib.hid hx9
            clear hx9
            refine step_builtin2 rfl rfl rfl rfl (bi_append hr) ?_
            replace hFr := hFr.trans' (Fr.of_grown hg9) (fun i hi h => by have := Option.some.inj h; omega)
            have hTn := HT.out _ hFr
            clear hg9 hr hCv hRd
            refine hK.out (At St) _ _ (fun _ h => h) (fun _ => by (assumption)) ?_
            clear hK K
            try simp only [Act.put, List.setIfInBounds_toArray, List.set_cons_zero, List.set_cons_succ]
            refine rt_one 15 rfl (by kernel_rfl) (fun K hK => ?_)
            go_simp
            refine (ref_of A9 x9 c9 Wn hR9 (by rw [HX9.out, HX8.out]; exact (bytes_byt s).append (beTo_byt _ 8)) (by have := HSZ.out; have h1 := bytesOf_length s; rw [HX9.out, HX8.out, List.length_append, h1]; show s.size + 8 ≤ _; omega)).mono ?_
            rintro r Wx ⟨rfl, rfl⟩
            go_wp2_with fail
            refine hK.out (At St) _ _ (fun _ h => h) (fun _ => by (assumption)) ?_
            clear hK K
            try simp only [Act.put, List.setIfInBounds_toArray, List.set_cons_zero, List.set_cons_succ]
            refine rt_free 16 (v := ?_) rfl (by kernel_rfl) (by kernel_rfl) (by kernel_rfl) (by kernel_rfl) (fun _ _ _ h => h) (by rfl) (fun _ => by first | assumption | exact HS0 _ rfl | exact HT.out _ (by repeat (first | exact Fr.refl _ _ | apply Fr.drew | refine Fr.alloc ?_ _))) ?_ ?_
            rotate_left 1
            · intro w; go_simp <;> with_reducible rfl
            try simp only [Act.put, List.setIfInBounds_toArray, List.set_cons_zero, List.set_cons_succ]
            refine rt_done (by kernel_rfl) ?_
            have ho : dOf x9 = oneV (runB L).1 s := by
              rw [HX9.out, HX8.out]
              unfold oneV
              have h1 := HFD.out
              rw [← HU.out] at h1 ⊢
              obtain ⟨uf, ux⟩ := u
              cases uf
              · cases h1
              · show _ = dOf (bytesOf s ++ be8 (canonP (canonP ux)))
                rw [canon_canon]
            rw [ho]
            have hol : oneV (runB L).1 s < 18446744073709551616 := dOf_lt _
            have HOL := Lib.hid hol
            have HFr := Lib.hid hFr
            clear ho hol hFr
            go_wp2_with fail
            refine (ref_big (digV (runB L).1 (ks.take k)) _ (digV_lt _ _)).mono ?_
            rintro r W2 ⟨v2, rfl, hO2, hF2⟩
            have HF2 := Lib.hid (HFr.out.trans hF2)
            have HFS := Lib.hid (show wr.heap.size ≤ Wn.heap.size from HFr.out.size)
            have HS2 := Lib.hid hF2.size
            have HO2 := Lib.hid hO2
            clear hO2 hF2
            go_wp2_with fail
            refine (ref_big (oneV (runB L).1 s) W2 HOL.out).mono ?_
            rintro r W3 ⟨v3, rfl, hO3, hF3⟩
            obtain ⟨A3, c3, rfl, hR3⟩ := hO3.reads
            have HO2' := Lib.hid (HO2.out.fr hF3 (fun _ _ _ h => h))
            have HF3 := Lib.hid (HF2.out.trans hF3)
            have HBS := Lib.hid (show Wn.heap.size ≤ W3.heap.size from Nat.le_trans HS2.out hF3.size)
            clear hO3 hF3
            obtain ⟨x2, hx2⟩ : ∃ x, x = be8 (digV (runB L).1 (ks.take k)) := ⟨_, rfl⟩
            obtain ⟨x3, hx3⟩ : ∃ x, x = be8 (oneV (runB L).1 s) := ⟨_, rfl⟩
            rw [← hx2] at HO2'
            rw [← hx3] at hR3 ⊢
            have HX2 := Lib.hid hx2
            have HX3 := Lib.hid hx3
            have HR3 := Lib.hid hR3
            clear hx2 hx3 hR3
            go_wp2_with (at_builtin; refine append8_row Wn.heap.size rfl (.tmp 32) (.tmp 34) rfl v2 x2 x3 A3 c3 (by rfl) (by rfl) HO2'.out HR3.out HBS.out (by rw [HX2.out, HX3.out]; show 8 + 8 ≤ _; omega) ?_; intro v4 w4 hO4 hF4; have HO4 := Lib.hid hO4; have HF4 := Lib.hid hF4; clear hO4 hF4)
            obtain ⟨A4, c4, rfl, hR4⟩ := HO4.out.reads
            have HR4 := Lib.hid hR4
            obtain ⟨x4, hx4⟩ : ∃ x, x = x2 ++ x3 := ⟨_, rfl⟩
            rw [← hx4] at HR4 ⊢
            have HX4 := Lib.hid hx4
            clear hR4 hx4
            refine (ref_of A4 x4 c4 w4 HR4.out (by rw [HX4.out, HX2.out, HX3.out]; exact (beTo_byt _ 8).append (beTo_byt _ 8)) (by rw [HX4.out, HX2.out, HX3.out, List.length_append]; show 8 + 8 ≤ _; omega)).mono ?_
            rintro r w5 ⟨rfl, rfl⟩
            have hdn : dOf x4 = digV (runB L).1 (ks.take (k + 1)) := by rw [HX4.out, HX2.out, HX3.out, HTK.out, digV_snoc]; rfl
            rw [hdn]
            clear hdn
            go_wp2_with fail
            go_roundw
            case rel => exact ⟨k + 1, by omega, by go_num, rfl, HG.out.trans (HF3.out.trans' HF4.out (fun i hi h => by have h1 := HFS.out; have h2 := h.1; omega))⟩
            case measure => simp [intOf]; omega
          refine AllNextt.cons rfl (fun K hK => ?_) ?_
          · skip
            go_simp
            refine (ref_big (canonP u.2) Wn (canon_lt HUO.out)).mono ?_
            rintro r Wn ⟨v8, rfl, hO8, hF⟩
            obtain ⟨x8, hx8⟩ : ∃ x, x = be8 (canonP u.2) := ⟨_, rfl⟩
            rw [← hx8] at hO8
            have HX8 := Lib.hid hx8
            clear hx8
            obtain ⟨A8, c8, rfl, hRd⟩ := hO8.reads
            try (replace hCv := CvB.fr hCv hF (fun h => h))
            replace hFr := hFr.trans hF
            have hTn := HT.out _ hFr
            clear hO8 hF
            go_wp2_with fail
            refine hK.out (At St) _ _ (fun _ h => h) (fun _ => by (assumption)) ?_
            clear hK K
            try simp only [Act.put, List.setIfInBounds_toArray, List.set_cons_zero, List.set_cons_succ]
            refine rt_one 4 rfl (by kernel_rfl) (fun K hK => ?_)
            go_simp
            have hCv := CvB.made Wn s
            have hFb : Fr (fun _ => False) Wn (Lib.bytesWorld Wn 5 s) := Fr.of_below (bytes_below (Below.refl Wn.heap.size Wn) (Nat.le_refl _) 5 s)
            try (replace hRd := RdB.fr hRd hFb (fun _ _ h => h))
            have hgx := hFr.size
            replace hFr := hFr.trans hFb
            clear hFb
            generalize grownCap Wn s.size 0 5 = cap at hCv ⊢
            generalize Wn.heap.size = gx at hCv hgx ⊢
            first | (generalize Lib.bytesWorld Wn 5 s = Wn at hCv hFr hRd ⊢) | (generalize Lib.bytesWorld Wn 5 s = Wn at hCv hFr ⊢)
            have hTn := HT.out _ hFr
            refine hK.out (At St) _ _ (fun _ h => h) (fun _ => by (assumption)) ?_
            clear hK K
            try simp only [Act.put, List.setIfInBounds_toArray, List.set_cons_zero, List.set_cons_succ]
            refine rt_one 14 rfl (by kernel_rfl) (fun K hK => ?_)
            obtain ⟨A9, c9, Wn, hr, hR9, hg9⟩ := run_append_cv 79 x8 A8 c8 hCv hRd (by have := HSZ.out; rw [HX8.out]; show s.size + 8 ≤ _; omega)
            obtain ⟨x9, hx9⟩ : ∃ x, x = bytesOf s ++ x8 := ⟨_, rfl⟩
            rw [← hx9] at hr hR9
            have HX9 := Lib.hid hx9
            clear hx9
            refine step_builtin2 rfl rfl rfl rfl (bi_append hr) ?_
            replace hFr := hFr.trans' (Fr.of_grown hg9) (fun i hi h => by have := Option.some.inj h; omega)
            have hTn := HT.out _ hFr
            clear hg9 hr hCv hRd
            refine hK.out (At St) _ _ (fun _ h => h) (fun _ => by (assumption)) ?_
            clear hK K
            try simp only [Act.put, List.setIfInBounds_toArray, List.set_cons_zero, List.set_cons_succ]
            refine rt_one 15 rfl (by kernel_rfl) (fun K hK => ?_)
            go_simp
            refine (ref_of A9 x9 c9 Wn hR9 (by rw [HX9.out, HX8.out]; exact (bytes_byt s).append (beTo_byt _ 8)) (by have := HSZ.out; have h1 := bytesOf_length s; rw [HX9.out, HX8.out, List.length_append, h1]; show s.size + 8 ≤ _; omega)).mono ?_
            rintro r Wx ⟨rfl, rfl⟩
            go_wp2_with fail
            refine hK.out (At St) _ _ (fun _ h => h) (fun _ => by (assumption)) ?_
            clear hK K
            try simp only [Act.put, List.setIfInBounds_toArray, List.set_cons_zero, List.set_cons_succ]
            refine rt_free 16 (v := ?_) rfl (by kernel_rfl) (by kernel_rfl) (by kernel_rfl) (by kernel_rfl) (fun _ _ _ h => h) (by rfl) (fun _ => by first | assumption | exact HS0 _ rfl | exact HT.out _ (by repeat (first | exact Fr.refl _ _ | apply Fr.drew | refine Fr.alloc ?_ _))) ?_ ?_
            rotate_left 1
            · intro w; go_simp <;> with_reducible rfl
            try simp only [Act.put, List.setIfInBounds_toArray, List.set_cons_zero, List.set_cons_succ]
            refine rt_done (by kernel_rfl) ?_
            have ho : dOf x9 = oneV (runB L).1 s := by
              rw [HX9.out, HX8.out]
              unfold oneV
              have h1 := HFD.out
              rw [← HU.out] at h1 ⊢
              obtain ⟨uf, ux⟩ := u
              cases uf
              · cases h1
              · show _ = dOf (bytesOf s ++ be8 (canonP (canonP ux)))
                rw [canon_canon]
            rw [ho]
            have hol : oneV (runB L).1 s < 18446744073709551616 := dOf_lt _
            have HOL := Lib.hid hol
            have HFr := Lib.hid hFr
            clear ho hol hFr
            go_wp2_with fail
            refine (ref_big (digV (runB L).1 (ks.take k)) _ (digV_lt _ _)).mono ?_
            rintro r W2 ⟨v2, rfl, hO2, hF2⟩
            have HF2 := Lib.hid (HFr.out.trans hF2)
            have HFS := Lib.hid (show wr.heap.size ≤ Wn.heap.size from HFr.out.size)
            have HS2 := Lib.hid hF2.size
            have HO2 := Lib.hid hO2
            clear hO2 hF2
            go_wp2_with fail
            refine (ref_big (oneV (runB L).1 s) W2 HOL.out).mono ?_
            rintro r W3 ⟨v3, rfl, hO3, hF3⟩
            obtain ⟨A3, c3, rfl, hR3⟩ := hO3.reads
            have HO2' := Lib.hid (HO2.out.fr hF3 (fun _ _ _ h => h))
            have HF3 := Lib.hid (HF2.out.trans hF3)
            have HBS := Lib.hid (show Wn.heap.size ≤ W3.heap.size from Nat.le_trans HS2.out hF3.size)
            clear hO3 hF3
            obtain ⟨x2, hx2⟩ : ∃ x, x = be8 (digV (runB L).1 (ks.take k)) := ⟨_, rfl⟩
            obtain ⟨x3, hx3⟩ : ∃ x, x = be8 (oneV (runB L).1 s) := ⟨_, rfl⟩
            rw [← hx2] at HO2'
            rw [← hx3] at hR3 ⊢
            have HX2 := Lib.hid hx2
            have HX3 := Lib.hid hx3
            have HR3 := Lib.hid hR3
            clear hx2 hx3 hR3
            go_wp2_with (at_builtin; refine append8_row Wn.heap.size rfl (.tmp 32) (.tmp 34) rfl v2 x2 x3 A3 c3 (by rfl) (by rfl) HO2'.out HR3.out HBS.out (by rw [HX2.out, HX3.out]; show 8 + 8 ≤ _; omega) ?_; intro v4 w4 hO4 hF4; have HO4 := Lib.hid hO4; have HF4 := Lib.hid hF4; clear hO4 hF4)
            obtain ⟨A4, c4, rfl, hR4⟩ := HO4.out.reads
            have HR4 := Lib.hid hR4
            obtain ⟨x4, hx4⟩ : ∃ x, x = x2 ++ x3 := ⟨_, rfl⟩
            rw [← hx4] at HR4 ⊢
            have HX4 := Lib.hid hx4
            clear hR4 hx4
            refine (ref_of A4 x4 c4 w4 HR4.out (by rw [HX4.out, HX2.out, HX3.out]; exact (beTo_byt _ 8).append (beTo_byt _ 8)) (by rw [HX4.out, HX2.out, HX3.out, List.length_append]; show 8 + 8 ≤ _; omega)).mono ?_
            rintro r w5 ⟨rfl, rfl⟩
            have hdn : dOf x4 = digV (runB L).1 (ks.take (k + 1)) := by rw [HX4.out, HX2.out, HX3.out, HTK.out, digV_snoc]; rfl
            rw [hdn]
            clear hdn
            go_wp2_with fail
            go_roundw
            case rel => exact ⟨k + 1, by omega, by go_num, rfl, HG.out.trans (HF3.out.trans' HF4.out (fun i hi h => by have h1 := HFS.out; have h2 := h.1; omega))⟩
            case measure => simp [intOf]; omega
          exact AllNextt.nil
        exact AllNextt.nil
      exact AllNextt.nil
    · obtain rfl : k = ks.length := by omega
      have tkk : decide (ks.length < ks.length) = false := decide_eq_false (by omega)
      rw [List.take_length]
      go_wp2_with fail
      go_ret
      exact ⟨ks, HK.out, rfl, HF1.out.trans HG.out⟩
end Go.Proofs.Ytepfhcimmbkilaa
