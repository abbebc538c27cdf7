/- Texts of VaultApplies, merged (30 of 33): Ref13D. -/
import Derived.Test.YtepfhcimmbkilaaGVaultApplies27
set_option linter.unusedVariables false
set_option linter.unusedSimpArgs false
/- What all commands of items tell, by the reference. -/
namespace Go.Proofs.Ytepfhcimmbkilaa
open Go.RowKit
open Go.Proofs.YtepfhcimmbkilaaW.PrintWords

theorem itF_of {w W : World} (hb : Below w.heap.size w W) {A : Option Addr} {n : Nat} {L : List Item} (h : itemK.C w A n L) : (itF w).C W A n L := ReadsRow.imp_ h hb (fun _ _ hp => hp)
theorem item_blk_C {w W : World} {g : Nat} {t : TypeId} {a : Item} {Ab : Option Addr} {c : Nat} (hB : Blk W g t #[.int .i64 a.1.1, .int .i64 a.1.2, .slice Ab a.2.length c]) (hc : a.2.length ≤ c) (hC : cmdK.C w Ab a.2.length a.2) : (itF w).C W (some ⟨g, 0, none⟩) 1 [a] := by
  refine ⟨rfl, by decide, fun _ => ⟨_, rfl, fun j p hj => ?_⟩⟩
  have hj0 : j = 0 := by
    have := (List.getElem?_eq_some_iff.1 hj).1
    simp at this
    exact this
  subst hj0
  cases hj
  refine ⟨itemCells a Ab c, rfl, item_K hc hC, fun i u hu => ?_⟩
  have hs : (itF w).sz = 3 := rfl
  rw [hs, Nat.zero_mul, Nat.zero_add, add_plain, hB.cell]
  simpa using hu
theorem tagN_take (id : Int × Int) (L : List Cmd) : ∀ j, j ≤ L.length → tagN id (L.take j) j = tagN id L j := fun j hj => by
  unfold tagN
  refine List.map_congr_left fun i hi => ?_
  have hi := List.mem_range.1 hi
  rw [cmx_eq (show i < (L.take j).length by rw [List.length_take]; omega), cmx_eq (show i < L.length by omega), List.getElem_take]
theorem ahead_cell {L : List Item} {k : Nat} {B : List Cmd} {j : Nat} (hj : j ≤ B.length) (key : ByteArray) (id : Int × Int) : cellOf (runB (L.take k ++ [((0, 0), B.take j)])).1 key = cellOf ((runB (L.take k)).1 ++ tagN id B j) key := by
  unfold runB
  rw [List.foldl_append]
  show cellOf ((runB (L.take k)).1 ++ tagN (0, 0) (B.take j) (B.take j).length) key = _
  rw [List.length_take, Nat.min_eq_left hj, tagN_take _ _ _ hj, cellOf_any]
  rfl
theorem app_items {w W : World} {n c : Nat} {e : TypeId} {A0 A : Option Addr} {m0 c0 : Nat} {xs ys : List Item} (t ty : TypeId) (ht : Try.prog.underlying t = some (.slice e))
    (hinfo : (Try.prog.info? e).map (fun i => (i.zero, i.size, i.bytes)) = some (some (.agg #[.int .i64 0, .int .i64 0, .slice none 0 0]), itemK.sz, 40))
    (hR : (itF w).R e W w.heap.size (fun b => w.heap.size ≤ b) (.slice A0 m0 c0) xs) (hC : (itF w).C W A n ys) (hF : Fr (fun _ => False) w W) (hl : xs.length + n ≤ 1000000) :
    ∃ A1 c1 W1, (Builtin.append_ #[t, t] ty #[.slice A0 m0 c0, .slice A n c]).run Try.prog W = .ok (.slice A1 (xs.length + n) c1) W1 ∧ (itF w).R e W1 w.heap.size (fun b => w.heap.size ≤ b) (.slice A1 (xs.length + n) c1) (xs ++ ys) ∧ Fr (fun _ => False) w W1 ∧ W.grownBy W1 (Value.slice A0 m0 c0).ownBlock := by
  obtain ⟨v1, W1, hr, hR1, hg, _⟩ := R_rows_run (P := Try.prog) (itF w) w.heap.size t ty e _ 40 ht hinfo rfl (show 0 < itemK.sz by decide) (by decide) (.slice A0 m0 c0) xs ys A n c (fun b => w.heap.size ≤ b) (fun _ => False) hR hC (fun x cs h => h) (fun _ h => h.elim) (fun k hk => Nat.le_trans hF.size hk) hF.size (by omega)
  obtain ⟨A3, c3, rfl⟩ := Kd.R_slice hR1
  have hlen : (xs ++ ys).length = xs.length + n := by rw [List.length_append, show ys.length = n from hC.1]
  rw [hlen] at hr hR1
  exact ⟨A3, c3, W1, hr, hR1, hF.trans' (Fr.of_grown hg) (fun i hi h => by have := Kd.R_base hR i h.symm; omega), hg⟩
set_option maxRecDepth 100000 in
set_option maxHeartbeats 8000000 in
theorem ref_results13 (A : Option Addr) (n c : Nat) (L : List Item) (w : World) (hC : itemK.C w A n L) (hL : ItemsGood L) (hn : n ≤ 1000) (hnc : n ≤ c) (h8 : ∀ it ∈ L, it.2.length ≤ 8) :
    Calls Try.prog 10 #[.slice A n c] w fun r w' => ∃ v T, r = .returned v ∧ resK.R 55 w' w.heap.size (fun b => w.heap.size ≤ b) v T ∧ T.map absR = (runB L).2 ∧ (∀ x ∈ T, CellOk x.2.2) ∧ Fr (fun _ => False) w w' := by
  have HLn := Lib.hid (show L.length = n from hC.1)
  have HC := Lib.hid hC
  have HO := Lib.hid hL
  have H8 := Lib.hid h8
  have hF := (Fr.refl (fun _ => False) w).alloc (.cells #[] 55)
  have HR0 := Lib.hid (R_empty resK 55 w)
  have HF := Lib.hid hF
  clear hF hC hL h8
  go_enter Try.func10, Try.ntmps10
  go_wp2_with fail
  go_loopw [3, 4] (fun u i wr => ∃ (k : Nat) (T : List Rs), k ≤ n ∧ i = .int .i64 k ∧ resK.R 55 wr w.heap.size (fun b => w.heap.size ≤ b) u T ∧ T.map absR = (runB (L.take k)).2 ∧ (∀ x ∈ T, CellOk x.2.2) ∧ T.length ≤ 8 * k ∧ Fr (fun _ => False) w wr) (fun _ i _ => n - (intOf i).toNat)
  case atStart => exact ⟨0, [], Nat.zero_le _, rfl, HR0.out, rfl, fun x hx => absurd hx List.not_mem_nil, Nat.le_refl _, HF.out⟩
  case round =>
    obtain ⟨k, T, hk, rfl, hR, hT, hTo, hTl, hG⟩ := hrel
    have HG := Lib.hid hG
    have HR := Lib.hid hR
    have HTT := Lib.hid hT
    have HTO := Lib.hid hTo
    have HTL := Lib.hid hTl
    clear hG hR hT hTo hTl
    rcases Nat.lt_or_ge k n with hlt | hge
    · have HGD := Lib.hid (HO.out _ (itx_mem (i := k) (by rw [HLn.out]; exact hlt)))
      have HI8 := Lib.hid (H8.out _ (itx_mem (i := k) (by rw [HLn.out]; exact hlt)))
      have HIT := Lib.hid (items_at HC.out hlt)
      have HRS := Lib.hid (runB_succ (L := L) (k := k) (by rw [HLn.out]; exact hlt))
      have HHG := Lib.hid (runB_take HO.out k (by rw [HLn.out]; exact hk))
      go_wp2_with fail
      go_loopw [3, 5] (fun u i wr => ∃ (j : Nat) (T : List Rs), j ≤ (itx L k).2.length ∧ i = .int .i64 j ∧ resK.R 55 wr w.heap.size (fun b => w.heap.size ≤ b) u T ∧ T.map absR = (runB (L.take k)).2 ++ toldN (runB (L.take k)).1 (itx L k).1 (itx L k).2 j ∧ (∀ x ∈ T, CellOk x.2.2) ∧ T.length ≤ 8 * k + j ∧ Fr (fun _ => False) w wr) (fun _ i _ => (itx L k).2.length - (intOf i).toNat)
      case atStart => exact ⟨0, T, Nat.zero_le _, rfl, HR.out, by rw [HTT.out]; unfold toldN; simp, HTO.out, HTL.out, HG.out⟩
      case round =>
        obtain ⟨j, T, hj, rfl, hR, hT, hTo, hTl, hG⟩ := hrel
        have HGs := Lib.hid hG
        have HRs := Lib.hid hR
        have HTTs := Lib.hid hT
        have HTOs := Lib.hid hTo
        have HTLs := Lib.hid hTl
        clear hG hR hT hTo hTl
        obtain ⟨b, off, Ab, cb, rfl, hcb, hCw, h0w, h1w, h2w⟩ := HIT.out
        have h2 := HGs.out.cell h2w (fun h => h)
        have HCw := Lib.hid hCw
        have H0w := Lib.hid h0w
        have H1w := Lib.hid h1w
        have H2w := Lib.hid h2w
        clear h0w h1w h2w hCw
        have hmx : (itx L k).2.length ≤ 9223372036854775807 := HCw.out.2.1
        rcases Nat.lt_or_ge j (itx L k).2.length with hlj | hgj
        · go_wp2_with fail
          rename_i K1 hK1
          have hjl : ((itx L k).2.take j).length = j := by rw [List.length_take]; omega
          have HJL := Lib.hid hjl
          have hjc : j ≤ cb := by omega
          have hkc : k ≤ c := by omega
          have hCt : itemK.C w (some ⟨b, off, none⟩) k (L.take k) := by
            have := Kd.C_take (m := k) (show itemK.C w (some ⟨b, off, none⟩) L.length L from by rw [HLn.out]; exact HC.out) (by rw [HLn.out]; exact hk)
            rwa [List.length_take, HLn.out, Nat.min_eq_left hk] at this
          have hCj : cmdK.C w Ab j ((itx L k).2.take j) := by
            have := Kd.C_take (m := j) HCw.out (by omega)
            rwa [HJL.out] at this
          have HCt := Lib.hid hCt
          have HCj := Lib.hid hCj
          have cont : ∀ (v26 v30 v39 : Value) (A5 : Option Addr) (c5 : Nat) (W : World), itemK.C W A5 (L.take k ++ [((0, 0), (itx L k).2.take j)]).length (L.take k ++ [((0, 0), (itx L k).2.take j)]) → Fr (fun _ => False) w W → resK.R 55 W w.heap.size (fun b => w.heap.size ≤ b) u3 T →
              K1 { tmps := #[.slice (some ⟨b, off, none⟩) n c, undef, .slice none 0 0, u3, .int .i64 (k : Int), .int .i64 (j : Int), .slice A5 (k + 1) c5, u7, u8, .slice (some ⟨w.heap.size, 0, none⟩) 0 0, .int .i64 (k : Int), .slice (some ⟨b, off, none⟩) n c, .int .i64 (n : Int), .bool true, u14, u15, .int .i64 (j : Int), .slice (some ⟨b, off, none⟩) n c, .int .i64 (k : Int), .pointer (some ⟨b, off + k * 3, none⟩), .pointer (some ⟨b, off + k * 3 + 2, none⟩), .slice Ab (itx L k).snd.length cb, .int .i64 ((itx L k).snd.length : Int), .bool true, u24, u25, v26, .slice (some ⟨b, off, none⟩) n c, .int .i64 (k : Int), .slice (some ⟨b, off, none⟩) k c, v30, .slice (some ⟨b, off, none⟩) n c, .int .i64 (k : Int), .pointer (some ⟨b, off + k * 3, none⟩), .pointer (some ⟨b, off + k * 3 + 2, none⟩), .slice Ab (itx L k).snd.length cb, .int .i64 (j : Int), .slice Ab j cb, .agg #[.int .i64 0, .int .i64 0, .slice Ab j cb], v39, .slice A5 (k + 1) c5, u41, u42, u43, u44, u45, u46, u47, u48, u49, u50, u51, u52, u53, u54, u55, u56, u57, u58, u59, u60, u61, u62, u63, u64, u65, u66, u67, u68, u69, u70, u71, u72, u73, u74, undef], defers := [] } W := by
            intro v26 v30 v39 A5 c5 W hCa hFW hRW
            have hla : (L.take k ++ [((0, 0), (itx L k).2.take j)]).length = k + 1 := by rw [List.length_append, List.length_take, HLn.out, List.length_singleton]; omega
            rw [hla] at hCa
            have HCa := Lib.hid hCa
            have HFW := Lib.hid hFW
            have HRW := Lib.hid hRW
            have hig : ItemsGood (L.take k ++ [((0, 0), (itx L k).2.take j)]) := fun it hi => by
              rcases List.mem_append.1 hi with hi | hi
              · exact HO.out it (List.mem_of_mem_take hi)
              · rw [List.mem_singleton.1 hi]; exact fun x hx => HGD.out x (List.mem_of_mem_take hx)
            have HIG := Lib.hid hig
            have hcg := HGD.out _ (cmx_mem hlj)
            have HCG := Lib.hid hcg
            obtain ⟨bb, ob, rfl, c0w, c1w, c2w⟩ := cmds_at HCw.out hlj
            have hac := ahead_cell (L := L) (k := k) hj (cmx (itx L k).2 j).2.1 (itx L k).1
            have HAC := Lib.hid hac
            clear hla hCa hFW hRW hig hcg hac
            refine hK1 _ _ ?_
            go_wp2_with fail
            rename_i K2 hK2
            have cont2 : ∀ (x41 x52 x61 x62 x63 : Value) (n7 n8 : Nat) (q : CellD) (W' : World), absC q = (doC (cellOf ((runB (L.take k)).1 ++ tagN (itx L k).1 (itx L k).2 j) (cmx (itx L k).2 j).2.1) (cmx (itx L k).2 j)).2 → CellOk q → Blk W' n8 53 #[.bool q.1, .float .f64 q.2] → Fr (fun _ => False) W W' →
                K2 { tmps := #[.slice (some ⟨b, off, none⟩) n c, undef, .slice none 0 0, u3, .int .i64 (k : Int), .int .i64 (j : Int), .slice A5 (k + 1) c5, .pointer (some ⟨n7, 0, none⟩), .pointer (some ⟨n8, 0, none⟩), .slice (some ⟨w.heap.size, 0, none⟩) 0 0, .int .i64 (k : Int), .slice (some ⟨b, off, none⟩) n c, .int .i64 (n : Int), .bool true, u14, u15, .int .i64 (j : Int), .slice (some ⟨b, off, none⟩) n c, .int .i64 (k : Int), .pointer (some ⟨b, off + k * 3, none⟩), .pointer (some ⟨b, off + k * 3 + 2, none⟩), .slice (some ⟨bb, ob, none⟩) (itx L k).snd.length cb, .int .i64 ((itx L k).snd.length : Int), .bool true, u24, u25, v26, .slice (some ⟨b, off, none⟩) n c, .int .i64 (k : Int), .slice (some ⟨b, off, none⟩) k c, v30, .slice (some ⟨b, off, none⟩) n c, .int .i64 (k : Int), .pointer (some ⟨b, off + k * 3, none⟩), .pointer (some ⟨b, off + k * 3 + 2, none⟩), .slice (some ⟨bb, ob, none⟩) (itx L k).snd.length cb, .int .i64 (j : Int), .slice (some ⟨bb, ob, none⟩) j cb, .agg #[.int .i64 0, .int .i64 0, .slice (some ⟨bb, ob, none⟩) j cb], v39, .slice A5 (k + 1) c5, x41, .slice A5 (k + 1) c5, .slice (some ⟨b, off, none⟩) n c, .int .i64 (k : Int), .pointer (some ⟨b, off + k * 3, none⟩), .pointer (some ⟨b, off + k * 3 + 2, none⟩), .slice (some ⟨bb, ob, none⟩) (itx L k).snd.length cb, .int .i64 (j : Int), .pointer (some ⟨bb, ob + j * 3, none⟩), .pointer (some ⟨bb, ob + j * 3 + 1, none⟩), .string (cmx (itx L k).snd j).snd.fst, x52, .slice (some ⟨b, off, none⟩) n c, .int .i64 (k : Int), .pointer (some ⟨b, off + k * 3, none⟩), .pointer (some ⟨b, off + k * 3 + 2, none⟩), .slice (some ⟨bb, ob, none⟩) (itx L k).snd.length cb, .int .i64 (j : Int), .pointer (some ⟨bb, ob + j * 3, none⟩), .agg #[.int .i64 (cmx (itx L k).snd j).fst, .string (cmx (itx L k).snd j).snd.fst, .float .f64 (cmx (itx L k).snd j).snd.snd], x61, x62, x63, u64, u65, u66, u67, u68, u69, u70, u71, u72, u73, u74, undef], defers := [] } W' := by
              intro x41 x52 x61 x62 x63 n7 n8 q W' hq hqo hB8 hFW'
              have HQ := Lib.hid hq
              have HQO := Lib.hid hqo
              have HB8 := Lib.hid hB8
              have HFW' := Lib.hid hFW'
              clear hq hqo hB8 hFW'
              refine hK2 _ _ ?_
              go_wp2_with fail
              obtain ⟨Wd, hWd⟩ : ∃ W2, W2 = W'.drew := ⟨_, rfl⟩
              have HWD := Lib.hid hWd
              have hFd : Fr (fun _ => False) W Wd := by rw [hWd]; exact HFW'.out.drew
              have hBd : Blk Wd n8 53 #[.bool q.1, .float .f64 q.2] := by rw [hWd]; exact HB8.out.drew
              have hFr : Fr (fun _ => False) w Wd := HFW.out.trans hFd
              have hRd := Kd.R_below HRW.out (hFd.below (fun _ _ h => h))
              obtain ⟨St, hSt⟩ : ∃ St : World → Prop, St = Fr (fun b => some b = u3.ownBlock) Wd := ⟨_, rfl⟩
              have HT := Lib.hid (show ∀ w', Fr (fun b => some b = u3.ownBlock) Wd w' → At St w' from fun w' h => by unfold At; rw [hSt]; exact h)
              have hbo : some b ≠ u3.ownBlock := fun e => by
                have h1 := Kd.R_base hRd b e.symm
                have h2 := World.block_lt_of_cell? w _ H2w.out
                simp only at h2
                omega
              have lift : ∀ (q : Addr) (u : Value), some q.block ≠ u3.ownBlock → Wd.cell? q = some u → ∀ w', At St w' → w'.cell? q = some u := fun q u hb hq w' h => by replace h := h.out; rw [hSt] at h; exact h.cell hq hb
              have l0 := lift _ _ hbo (hFr.cell H0w.out (fun h => h))
              have l1 := lift _ _ hbo (hFr.cell H1w.out (fun h => h))
              have l4 := lift ⟨n8, 0, none⟩ _ (Kd.R_ne hRd hBd (by decide)) (hBd.cell 0)
              have l5 := lift ⟨n8, 1, none⟩ _ (Kd.R_ne hRd hBd (by decide)) (hBd.cell 1)
              have hT0 := HT.out Wd (Fr.refl _ _)
              have HRd := Lib.hid hRd
              have HFr := Lib.hid hFr
              clear lift hSt hWd hFd hBd hRd hFr hbo
              refine rt_start [11] (At St) 12 (by kernel_rfl) rfl ?_
              rw [← HWD.out]
              refine rt_free 0 (v := ?_) rfl (by kernel_rfl) (by kernel_rfl) (by kernel_rfl) (by kernel_rfl) (fun _ _ _ h => h) (by rfl) (fun _ => by first | assumption | exact HS0 _ rfl | exact HT.out _ (by repeat (first | exact Fr.refl _ _ | apply Fr.drew | refine Fr.alloc ?_ _))) ?_ ?_
              rotate_left 1
              · intro w; go_simp <;> with_reducible rfl
              try simp only [Act.put, List.setIfInBounds_toArray, List.set_cons_zero, List.set_cons_succ]
              refine rt_free 1 (v := ?_) rfl (by kernel_rfl) (by kernel_rfl) (by kernel_rfl) (by kernel_rfl) (fun _ _ _ h => h) (by rfl) (fun _ => by first | assumption | exact HS0 _ rfl | exact HT.out _ (by repeat (first | exact Fr.refl _ _ | apply Fr.drew | refine Fr.alloc ?_ _))) ?_ ?_
              rotate_left 1
              · intro w; go_simp <;> with_reducible rfl
              try simp only [Act.put, List.setIfInBounds_toArray, List.set_cons_zero, List.set_cons_succ]
              refine rt_free 2 (v := ?_) rfl (by kernel_rfl) (by kernel_rfl) (by kernel_rfl) (by kernel_rfl) (fun _ _ _ h => h) (by rfl) (fun _ => by first | assumption | exact HS0 _ rfl | exact HT.out _ (by repeat (first | exact Fr.refl _ _ | apply Fr.drew | refine Fr.alloc ?_ _))) ?_ ?_
              rotate_left 1
              · intro w; go_simp <;> with_reducible rfl
              try simp only [Act.put, List.setIfInBounds_toArray, List.set_cons_zero, List.set_cons_succ]
              refine rt_free 3 (v := ?_) rfl (by kernel_rfl) (by kernel_rfl) (by kernel_rfl) (by kernel_rfl) (fun _ _ _ h => h) (by rfl) (fun _ => by first | assumption | exact HS0 _ rfl | exact HT.out _ (by repeat (first | exact Fr.refl _ _ | apply Fr.drew | refine Fr.alloc ?_ _))) ?_ ?_
              rotate_left 1
              · intro w; go_simp <;> with_reducible rfl
              try simp only [Act.put, List.setIfInBounds_toArray, List.set_cons_zero, List.set_cons_succ]
              refine rt_free 4 (v := ?_) rfl (by kernel_rfl) (by kernel_rfl) (by kernel_rfl) (by kernel_rfl) (fun _ _ _ h => h) (by rfl) (fun _ => by first | assumption | exact HS0 _ rfl | exact HT.out _ (by repeat (first | exact Fr.refl _ _ | apply Fr.drew | refine Fr.alloc ?_ _))) ?_ ?_
              rotate_left 1
              · intro w; go_simp <;> with_reducible rfl
              try simp only [Act.put, List.setIfInBounds_toArray, List.set_cons_zero, List.set_cons_succ]
              refine rt_take 5 (v := ?_) rfl (by kernel_rfl) (by kernel_rfl) (by kernel_rfl) (by kernel_rfl) (fun _ _ _ h => h) (by rfl) (by first | assumption | exact HS0 _ rfl | exact HT.out _ (by repeat (first | exact Fr.refl _ _ | apply Fr.drew | refine Fr.alloc ?_ _))) ?_ ?_
              rotate_left 1
              · intro w hSw; go_simp <;> with_reducible rfl
              try simp only [Act.put, List.setIfInBounds_toArray, List.set_cons_zero, List.set_cons_succ]
              refine rt_free 6 (v := ?_) rfl (by kernel_rfl) (by kernel_rfl) (by kernel_rfl) (by kernel_rfl) (fun _ _ _ h => h) (by rfl) (fun _ => by first | assumption | exact HS0 _ rfl | exact HT.out _ (by repeat (first | exact Fr.refl _ _ | apply Fr.drew | refine Fr.alloc ?_ _))) ?_ ?_
              rotate_left 1
              · intro w; go_simp <;> with_reducible rfl
              try simp only [Act.put, List.setIfInBounds_toArray, List.set_cons_zero, List.set_cons_succ]
              refine rt_take 7 (v := ?_) rfl (by kernel_rfl) (by kernel_rfl) (by kernel_rfl) (by kernel_rfl) (fun _ _ _ h => h) (by rfl) (by first | assumption | exact HS0 _ rfl | exact HT.out _ (by repeat (first | exact Fr.refl _ _ | apply Fr.drew | refine Fr.alloc ?_ _))) ?_ ?_
              rotate_left 1
              · intro w hSw; go_simp <;> with_reducible rfl
              try simp only [Act.put, List.setIfInBounds_toArray, List.set_cons_zero, List.set_cons_succ]
              refine rt_free 8 (v := ?_) rfl (by kernel_rfl) (by kernel_rfl) (by kernel_rfl) (by kernel_rfl) (fun _ _ _ h => h) (by rfl) (fun _ => by first | assumption | exact HS0 _ rfl | exact HT.out _ (by repeat (first | exact Fr.refl _ _ | apply Fr.drew | refine Fr.alloc ?_ _))) ?_ ?_
              rotate_left 1
              · intro w; go_simp <;> with_reducible rfl
              try simp only [Act.put, List.setIfInBounds_toArray, List.set_cons_zero, List.set_cons_succ]
              refine rt_one 9 rfl (by kernel_rfl) (fun K hK => ?_)
              go_simp
              refine hK.out (At St) _ _ (fun _ h => h) (fun _ => by (exact HT.out _ ((Fr.refl _ _).alloc _))) ?_
              clear hK K
              try simp only [Act.put, List.setIfInBounds_toArray, List.set_cons_zero, List.set_cons_succ]
              refine rt_one 10 rfl (by kernel_rfl) (fun K hK => ?_)
              refine Kd.R_append_step resK w.heap.size rfl (.tmp 64) (.tmp 73) 31 55 _ 40 rfl Try.underlying31 info_res rfl (by decide) (by decide) u3 T ((itx L k).1, (j : Int), q) (resCells ((itx L k).1, (j : Int), q)) (fun b => w.heap.size ≤ b) (fun _ => False) (by rfl) (by rfl) (resK_M _ _ _ _) (fun _ h => h.elim) (fun b hb => Nat.le_trans HFr.out.size hb) HRd.out (Below.refl _ _) HFr.out.size (by have h1 := HTLs.out; have h2 := HI8.out; omega) ?_
              intro v1 W6 hR1 hB1 hg1 hat1
              have hT6 := HT.out _ (Fr.of_grown hg1)
              refine hK.out (At St) _ _ (fun _ h => h) (fun _ => by (assumption)) ?_
              clear hK K
              try simp only [Act.put, List.setIfInBounds_toArray, List.set_cons_zero, List.set_cons_succ]
              refine rt_one 11 rfl (by kernel_rfl) (fun K hK => ?_)
              go_simp
              refine hK.out (At St) _ _ (fun _ h => h) (late_abs (by kernel_rfl)) ?_
              clear hK K
              try simp only [Act.put, List.setIfInBounds_toArray, List.set_cons_zero, List.set_cons_succ]
              refine rt_done (by kernel_rfl) ?_
              clear l0 l1 l4 l5 hT0 hT6
              have HR1 := Lib.hid hR1
              have HG1 := Lib.hid hg1
              clear hR1 hB1 hg1 hat1
              go_wp2_with fail
              go_roundw
              case rel =>
                refine ⟨j + 1, T ++ [((itx L k).1, (j : Int), q)], by omega, by go_num, HR1.out, ?_, ?_, by rw [List.length_append, List.length_singleton]; have := HTLs.out; omega, HFr.out.trans' (Fr.of_grown HG1.out) (fun i hi h => by have := Kd.R_base HRd.out i h.symm; omega)⟩
                · rw [toldN_succ, List.map_append, HTTs.out, List.append_assoc]
                  congr 2
                  show [((itx L k).1, (j : Int), absC q)] = _
                  rw [HQ.out]
                · intro x hx
                  rcases List.mem_append.1 hx with hx | hx
                  · exact HTOs.out x hx
                  · rw [List.mem_singleton.1 hx]; exact HQO.out
              case measure => simp [intOf]; omega
            obtain ⟨Wd, hWd⟩ : ∃ W', W' = W.drew := ⟨_, rfl⟩
            have HWD := Lib.hid hWd
            have hFr : Fr (fun _ => False) w Wd := by rw [hWd]; exact HFW.out.drew
            have hFx : Fr (fun _ => False) W Wd := by rw [hWd]; exact (Fr.refl _ _).drew
            obtain ⟨St, hSt⟩ : ∃ St : World → Prop, St = Fr (fun _ => False) w := ⟨_, rfl⟩
            have HT := Lib.hid (show ∀ w', Fr (fun _ => False) w w' → At St w' from fun w' h => by unfold At; rw [hSt]; exact h)
            have lift : ∀ (q : Addr) (u : Value), w.cell? q = some u → ∀ w', At St w' → w'.cell? q = some u := fun q u hq w' h => by replace h := h.out; rw [hSt] at h; exact h.cell hq (fun h => h)
            have l2 := lift _ _ H2w.out
            have l3 := lift _ _ c0w
            have l4 := lift _ _ c1w
            have l5 := lift _ _ c2w
            have hT0 := HT.out Wd hFr
            clear lift hSt hWd c0w c1w c2w
            refine rt_start [26] (At St) 27 (by kernel_rfl) rfl ?_
            rw [← HWD.out]
            generalize Wd = Wn at hFr hFx hT0 ⊢
            refine rt_free 0 (v := ?_) rfl (by kernel_rfl) (by kernel_rfl) (by kernel_rfl) (by kernel_rfl) (fun _ _ _ h => h) (by rfl) (fun _ => by first | assumption | exact HS0 _ rfl | exact HT.out _ (by repeat (first | exact Fr.refl _ _ | apply Fr.drew | refine Fr.alloc ?_ _))) ?_ ?_
            rotate_left 1
            · intro w; go_simp <;> with_reducible rfl
            try simp only [Act.put, List.setIfInBounds_toArray, List.set_cons_zero, List.set_cons_succ]
            refine rt_free 1 (v := ?_) rfl (by kernel_rfl) (by kernel_rfl) (by kernel_rfl) (by kernel_rfl) (fun _ _ _ h => h) (by rfl) (fun _ => by first | assumption | exact HS0 _ rfl | exact HT.out _ (by repeat (first | exact Fr.refl _ _ | apply Fr.drew | refine Fr.alloc ?_ _))) ?_ ?_
            rotate_left 1
            · intro w; go_simp <;> with_reducible rfl
            try simp only [Act.put, List.setIfInBounds_toArray, List.set_cons_zero, List.set_cons_succ]
            refine rt_free 2 (v := ?_) rfl (by kernel_rfl) (by kernel_rfl) (by kernel_rfl) (by kernel_rfl) (fun _ _ _ h => h) (by rfl) (fun _ => by first | assumption | exact HS0 _ rfl | exact HT.out _ (by repeat (first | exact Fr.refl _ _ | apply Fr.drew | refine Fr.alloc ?_ _))) ?_ ?_
            rotate_left 1
            · intro w; go_simp <;> with_reducible rfl
            try simp only [Act.put, List.setIfInBounds_toArray, List.set_cons_zero, List.set_cons_succ]
            refine rt_free 3 (v := ?_) rfl (by kernel_rfl) (by kernel_rfl) (by kernel_rfl) (by kernel_rfl) (fun _ _ _ h => h) (by rfl) (fun _ => by first | assumption | exact HS0 _ rfl | exact HT.out _ (by repeat (first | exact Fr.refl _ _ | apply Fr.drew | refine Fr.alloc ?_ _))) ?_ ?_
            rotate_left 1
            · intro w; go_simp <;> with_reducible rfl
            try simp only [Act.put, List.setIfInBounds_toArray, List.set_cons_zero, List.set_cons_succ]
            refine rt_free 4 (v := ?_) rfl (by kernel_rfl) (by kernel_rfl) (by kernel_rfl) (by kernel_rfl) (fun _ _ _ h => h) (by rfl) (fun _ => by first | assumption | exact HS0 _ rfl | exact HT.out _ (by repeat (first | exact Fr.refl _ _ | apply Fr.drew | refine Fr.alloc ?_ _))) ?_ ?_
            rotate_left 1
            · intro w; go_simp <;> with_reducible rfl
            try simp only [Act.put, List.setIfInBounds_toArray, List.set_cons_zero, List.set_cons_succ]
            refine rt_take 5 (v := ?_) rfl (by kernel_rfl) (by kernel_rfl) (by kernel_rfl) (by kernel_rfl) (fun _ _ _ h => h) (by rfl) (by first | assumption | exact HS0 _ rfl | exact HT.out _ (by repeat (first | exact Fr.refl _ _ | apply Fr.drew | refine Fr.alloc ?_ _))) ?_ ?_
            rotate_left 1
            · intro w hSw; go_simp <;> with_reducible rfl
            try simp only [Act.put, List.setIfInBounds_toArray, List.set_cons_zero, List.set_cons_succ]
            refine rt_free 6 (v := ?_) rfl (by kernel_rfl) (by kernel_rfl) (by kernel_rfl) (by kernel_rfl) (fun _ _ _ h => h) (by rfl) (fun _ => by first | assumption | exact HS0 _ rfl | exact HT.out _ (by repeat (first | exact Fr.refl _ _ | apply Fr.drew | refine Fr.alloc ?_ _))) ?_ ?_
            rotate_left 1
            · intro w; go_simp <;> with_reducible rfl
            try simp only [Act.put, List.setIfInBounds_toArray, List.set_cons_zero, List.set_cons_succ]
            refine rt_free 7 (v := ?_) rfl (by kernel_rfl) (by kernel_rfl) (by kernel_rfl) (by kernel_rfl) (fun _ _ _ h => h) (by rfl) (fun _ => by first | assumption | exact HS0 _ rfl | exact HT.out _ (by repeat (first | exact Fr.refl _ _ | apply Fr.drew | refine Fr.alloc ?_ _))) ?_ ?_
            rotate_left 1
            · intro w; go_simp <;> with_reducible rfl
            try simp only [Act.put, List.setIfInBounds_toArray, List.set_cons_zero, List.set_cons_succ]
            refine rt_free 8 (v := ?_) rfl (by kernel_rfl) (by kernel_rfl) (by kernel_rfl) (by kernel_rfl) (fun _ _ _ h => h) (by rfl) (fun _ => by first | assumption | exact HS0 _ rfl | exact HT.out _ (by repeat (first | exact Fr.refl _ _ | apply Fr.drew | refine Fr.alloc ?_ _))) ?_ ?_
            rotate_left 1
            · intro w; go_simp <;> with_reducible rfl
            try simp only [Act.put, List.setIfInBounds_toArray, List.set_cons_zero, List.set_cons_succ]
            refine rt_take 9 (v := ?_) rfl (by kernel_rfl) (by kernel_rfl) (by kernel_rfl) (by kernel_rfl) (fun _ _ _ h => h) (by rfl) (by first | assumption | exact HS0 _ rfl | exact HT.out _ (by repeat (first | exact Fr.refl _ _ | apply Fr.drew | refine Fr.alloc ?_ _))) ?_ ?_
            rotate_left 1
            · intro w hSw; go_simp <;> with_reducible rfl
            try simp only [Act.put, List.setIfInBounds_toArray, List.set_cons_zero, List.set_cons_succ]
            refine rt_free 11 (v := ?_) rfl (by kernel_rfl) (by kernel_rfl) (by kernel_rfl) (by kernel_rfl) (fun _ _ _ h => h) (by rfl) (fun _ => by first | assumption | exact HS0 _ rfl | exact HT.out _ (by repeat (first | exact Fr.refl _ _ | apply Fr.drew | refine Fr.alloc ?_ _))) ?_ ?_
            rotate_left 1
            · intro w; go_simp <;> with_reducible rfl
            try simp only [Act.put, List.setIfInBounds_toArray, List.set_cons_zero, List.set_cons_succ]
            refine rt_free 12 (v := ?_) rfl (by kernel_rfl) (by kernel_rfl) (by kernel_rfl) (by kernel_rfl) (fun _ _ _ h => h) (by rfl) (fun _ => by first | assumption | exact HS0 _ rfl | exact HT.out _ (by repeat (first | exact Fr.refl _ _ | apply Fr.drew | refine Fr.alloc ?_ _))) ?_ ?_
            rotate_left 1
            · intro w; go_simp <;> with_reducible rfl
            try simp only [Act.put, List.setIfInBounds_toArray, List.set_cons_zero, List.set_cons_succ]
            refine rt_free 13 (v := ?_) rfl (by kernel_rfl) (by kernel_rfl) (by kernel_rfl) (by kernel_rfl) (fun _ _ _ h => h) (by rfl) (fun _ => by first | assumption | exact HS0 _ rfl | exact HT.out _ (by repeat (first | exact Fr.refl _ _ | apply Fr.drew | refine Fr.alloc ?_ _))) ?_ ?_
            rotate_left 1
            · intro w; go_simp <;> with_reducible rfl
            try simp only [Act.put, List.setIfInBounds_toArray, List.set_cons_zero, List.set_cons_succ]
            refine rt_free 14 (v := ?_) rfl (by kernel_rfl) (by kernel_rfl) (by kernel_rfl) (by kernel_rfl) (fun _ _ _ h => h) (by rfl) (fun _ => by first | assumption | exact HS0 _ rfl | exact HT.out _ (by repeat (first | exact Fr.refl _ _ | apply Fr.drew | refine Fr.alloc ?_ _))) ?_ ?_
            rotate_left 1
            · intro w; go_simp <;> with_reducible rfl
            try simp only [Act.put, List.setIfInBounds_toArray, List.set_cons_zero, List.set_cons_succ]
            refine rt_take 15 (v := ?_) rfl (by kernel_rfl) (by kernel_rfl) (by kernel_rfl) (by kernel_rfl) (fun _ _ _ h => h) (by rfl) (by first | assumption | exact HS0 _ rfl | exact HT.out _ (by repeat (first | exact Fr.refl _ _ | apply Fr.drew | refine Fr.alloc ?_ _))) ?_ ?_
            rotate_left 1
            · intro w hSw; go_simp <;> with_reducible rfl
            try simp only [Act.put, List.setIfInBounds_toArray, List.set_cons_zero, List.set_cons_succ]
            refine rt_free 16 (v := ?_) rfl (by kernel_rfl) (by kernel_rfl) (by kernel_rfl) (by kernel_rfl) (fun _ _ _ h => h) (by rfl) (fun _ => by first | assumption | exact HS0 _ rfl | exact HT.out _ (by repeat (first | exact Fr.refl _ _ | apply Fr.drew | refine Fr.alloc ?_ _))) ?_ ?_
            rotate_left 1
            · intro w; go_simp <;> with_reducible rfl
            try simp only [Act.put, List.setIfInBounds_toArray, List.set_cons_zero, List.set_cons_succ]
            refine rt_free 17 (v := ?_) rfl (by kernel_rfl) (by kernel_rfl) (by kernel_rfl) (by kernel_rfl) (fun _ _ _ h => h) (by rfl) (fun _ => by first | assumption | exact HS0 _ rfl | exact HT.out _ (by repeat (first | exact Fr.refl _ _ | apply Fr.drew | refine Fr.alloc ?_ _))) ?_ ?_
            rotate_left 1
            · intro w; go_simp <;> with_reducible rfl
            try simp only [Act.put, List.setIfInBounds_toArray, List.set_cons_zero, List.set_cons_succ]
            refine rt_take 18 (v := ?_) rfl (by kernel_rfl) (by kernel_rfl) (by kernel_rfl) (by kernel_rfl) (fun _ _ _ h => h) (by rfl) (by first | assumption | exact HS0 _ rfl | exact HT.out _ (by repeat (first | exact Fr.refl _ _ | apply Fr.drew | refine Fr.alloc ?_ _))) ?_ ?_
            rotate_left 1
            · intro w hSw; go_simp <;> with_reducible rfl
            try simp only [Act.put, List.setIfInBounds_toArray, List.set_cons_zero, List.set_cons_succ]
            refine rt_ready [10, 23, 24] (by kernel_rfl) (by simp) ?_
            refine AllNextt.cons rfl (fun K hK => ?_) ?_
            · skip
              go_simp
              refine (ref_cell13 A5 (k + 1) c5 _ (cmx (itx L k).2 j).2.1 Wn (Kd.C_below HCa.out (hFx.below (fun _ _ h => h))) HIG.out (by omega)).mono ?_
              rintro r Wm ⟨u, rfl, hu, huo, hF1⟩
              rw [HAC.out] at hu
              replace hFr := hFr.trans hF1
              replace hFx := hFx.trans hF1
              try replace hB7 := Blk.fr hB7 hF1 (fun h => h)
              try replace hB8 := Blk.fr hB8 hF1 (fun h => h)
              clear hF1
              generalize Wm = Wn at *
              have hTn := HT.out _ hFr
              go_wp2_with fail
              refine hK.out (At St) _ _ (fun _ h => h) (fun _ => by (assumption)) ?_
              clear hK K
              try simp only [Act.put, List.setIfInBounds_toArray, List.set_cons_zero, List.set_cons_succ]
              refine rt_ready [19, 23, 24] (by kernel_rfl) (by simp) ?_
              refine AllNextt.cons rfl (fun K hK => ?_) ?_
              · skip
                go_simp
                refine (ref_do u (cmx (itx L k).2 j) Wn huo HCG.out).mono ?_
                rintro r Wm ⟨p, q, rfl, hp, hq, hpo, hqo, hF1⟩
                rw [hu] at hq
                replace hFr := hFr.trans hF1
                replace hFx := hFx.trans hF1
                try replace hB7 := Blk.fr hB7 hF1 (fun h => h)
                try replace hB8 := Blk.fr hB8 hF1 (fun h => h)
                clear hF1 hp hu
                generalize Wm = Wn at *
                have hTn := HT.out _ hFr
                go_wp2_with fail
                refine hK.out (At St) _ _ (fun _ h => h) (fun _ => by (assumption)) ?_
                clear hK K
                try simp only [Act.put, List.setIfInBounds_toArray, List.set_cons_zero, List.set_cons_succ]
                refine rt_free 20 (v := ?_) rfl (by kernel_rfl) (by kernel_rfl) (by kernel_rfl) (by kernel_rfl) (fun _ _ _ h => h) (by rfl) (fun _ => by first | assumption | exact HS0 _ rfl | exact HT.out _ (by repeat (first | exact Fr.refl _ _ | apply Fr.drew | refine Fr.alloc ?_ _))) ?_ ?_
                rotate_left 1
                · intro w; go_simp <;> with_reducible rfl
                try simp only [Act.put, List.setIfInBounds_toArray, List.set_cons_zero, List.set_cons_succ]
                refine rt_free 21 (v := ?_) rfl (by kernel_rfl) (by kernel_rfl) (by kernel_rfl) (by kernel_rfl) (fun _ _ _ h => h) (by rfl) (fun _ => by first | assumption | exact HS0 _ rfl | exact HT.out _ (by repeat (first | exact Fr.refl _ _ | apply Fr.drew | refine Fr.alloc ?_ _))) ?_ ?_
                rotate_left 1
                · intro w; go_simp <;> with_reducible rfl
                try simp only [Act.put, List.setIfInBounds_toArray, List.set_cons_zero, List.set_cons_succ]
                refine rt_free 22 (v := ?_) rfl (by kernel_rfl) (by kernel_rfl) (by kernel_rfl) (by kernel_rfl) (fun _ _ _ h => h) (by rfl) (fun _ => by first | assumption | exact HS0 _ rfl | exact HT.out _ (by repeat (first | exact Fr.refl _ _ | apply Fr.drew | refine Fr.alloc ?_ _))) ?_ ?_
                rotate_left 1
                · intro w; go_simp <;> with_reducible rfl
                try simp only [Act.put, List.setIfInBounds_toArray, List.set_cons_zero, List.set_cons_succ]
                refine rt_ready [23, 24] (by kernel_rfl) (by simp) ?_
                refine AllNextt.cons rfl (fun K hK => ?_) ?_
                · skip
                  go_simp
                  have hge7 := hFr.size
                  have hgx7 := hFx.size
                  try have hlt8 := Blk.lt hB8
                  have hB7 := Blk.new Wn 53 #[.bool false, .float .f64 0]
                  try replace hB8 := Blk.alloc hB8 (.cells #[.bool false, .float .f64 0] 53)
                  replace hFr := hFr.alloc (.cells #[.bool false, .float .f64 0] 53)
                  replace hFx := hFx.alloc (.cells #[.bool false, .float .f64 0] 53)
                  first | generalize Wn.heap.size = n7 at hB7 hlt8 hge7 hgx7 ⊢ | generalize Wn.heap.size = n7 at hB7 hge7 hgx7 ⊢
                  first | generalize World.alloc _ _ = Wn at hB7 hB8 hFr hFx ⊢ | generalize World.alloc _ _ = Wn at hB7 hFr hFx ⊢
                  have hTn := HT.out _ hFr
                  refine hK.out (At St) _ _ (fun _ h => h) (fun _ => by (assumption)) ?_
                  clear hK K
                  try simp only [Act.put, List.setIfInBounds_toArray, List.set_cons_zero, List.set_cons_succ]
                  refine rt_one 24 rfl (by kernel_rfl) (fun K hK => ?_)
                  go_simp
                  have hge8 := hFr.size
                  have hgx8 := hFx.size
                  try have hlt7 := Blk.lt hB7
                  have hB8 := Blk.new Wn 53 #[.bool false, .float .f64 0]
                  try replace hB7 := Blk.alloc hB7 (.cells #[.bool false, .float .f64 0] 53)
                  replace hFr := hFr.alloc (.cells #[.bool false, .float .f64 0] 53)
                  replace hFx := hFx.alloc (.cells #[.bool false, .float .f64 0] 53)
                  first | generalize Wn.heap.size = n8 at hB8 hlt7 hge8 hgx8 ⊢ | generalize Wn.heap.size = n8 at hB8 hge8 hgx8 ⊢
                  first | generalize World.alloc _ _ = Wn at hB7 hB8 hFr hFx ⊢ | generalize World.alloc _ _ = Wn at hB8 hFr hFx ⊢
                  have hTn := HT.out _ hFr
                  refine hK.out (At St) _ _ (fun _ h => h) (fun _ => by (assumption)) ?_
                  clear hK K
                  try simp only [Act.put, List.setIfInBounds_toArray, List.set_cons_zero, List.set_cons_succ]
                  refine rt_one 25 rfl (by kernel_rfl) (fun K hK => ?_)
                  have b0 := Blk.cell hB7 0
                  have b1 := Blk.cell hB7 1
                  have bf := Blk.frozen hB7
                  simp only [List.getElem?_toArray, List.getElem?_cons_zero, List.getElem?_cons_succ] at b0 b1
                  go_simp
                  have hne : n8 ≠ n7 := by omega
                  replace hB8 := Blk.far2 hB8 hne (.bool p.1) (.float .f64 p.2)
                  replace hFr := hFr.set2 (.inr hge7) (.bool p.1) (.float .f64 p.2)
                  replace hFx := hFx.set2 (.inr hgx7) (.bool p.1) (.float .f64 p.2)
                  clear b0 b1 bf hne
                  generalize World.setCell _ _ _ = Wn at hB8 hFr hFx ⊢
                  have hTn := HT.out _ hFr
                  refine hK.out (At St) _ _ (fun _ h => h) (fun _ => by (assumption)) ?_
                  clear hK K
                  try simp only [Act.put, List.setIfInBounds_toArray, List.set_cons_zero, List.set_cons_succ]
                  refine rt_one 26 rfl (by kernel_rfl) (fun K hK => ?_)
                  have b0 := Blk.cell hB8 0
                  have b1 := Blk.cell hB8 1
                  have bf := Blk.frozen hB8
                  simp only [List.getElem?_toArray, List.getElem?_cons_zero, List.getElem?_cons_succ] at b0 b1
                  go_simp
                  replace hB8 := Blk.set2 hB8 (u := .bool q.1) (v := .float .f64 q.2)
                  replace hFx := hFx.set2 (.inr hgx8) (.bool q.1) (.float .f64 q.2)
                  clear b0 b1 bf hFr
                  generalize World.setCell _ _ _ = Wn at hB8 hFx ⊢
                  refine hK.out (At St) _ _ (fun _ h => h) (late_abs (by kernel_rfl)) ?_
                  clear hK K
                  try simp only [Act.put, List.setIfInBounds_toArray, List.set_cons_zero, List.set_cons_succ]
                  refine rt_done (by kernel_rfl) ?_
                  all_goals exact cont2 _ _ _ _ _ n7 n8 q Wn hq hqo hB8 hFx
                refine AllNextt.cons rfl (fun K hK => ?_) ?_
                · skip
                  go_simp
                  have hge8 := hFr.size
                  have hgx8 := hFx.size
                  try have hlt7 := Blk.lt hB7
                  have hB8 := Blk.new Wn 53 #[.bool false, .float .f64 0]
                  try replace hB7 := Blk.alloc hB7 (.cells #[.bool false, .float .f64 0] 53)
                  replace hFr := hFr.alloc (.cells #[.bool false, .float .f64 0] 53)
                  replace hFx := hFx.alloc (.cells #[.bool false, .float .f64 0] 53)
                  first | generalize Wn.heap.size = n8 at hB8 hlt7 hge8 hgx8 ⊢ | generalize Wn.heap.size = n8 at hB8 hge8 hgx8 ⊢
                  first | generalize World.alloc _ _ = Wn at hB7 hB8 hFr hFx ⊢ | generalize World.alloc _ _ = Wn at hB8 hFr hFx ⊢
                  have hTn := HT.out _ hFr
                  refine hK.out (At St) _ _ (fun _ h => h) (fun _ => by (assumption)) ?_
                  clear hK K
                  try simp only [Act.put, List.setIfInBounds_toArray, List.set_cons_zero, List.set_cons_succ]
                  refine rt_one 23 rfl (by kernel_rfl) (fun K hK => ?_)
                  go_simp
                  have hge7 := hFr.size
                  have hgx7 := hFx.size
                  try have hlt8 := Blk.lt hB8
                  have hB7 := Blk.new Wn 53 #[.bool false, .float .f64 0]
                  try replace hB8 := Blk.alloc hB8 (.cells #[.bool false, .float .f64 0] 53)
                  replace hFr := hFr.alloc (.cells #[.bool false, .float .f64 0] 53)
                  replace hFx := hFx.alloc (.cells #[.bool false, .float .f64 0] 53)
                  first | generalize Wn.heap.size = n7 at hB7 hlt8 hge7 hgx7 ⊢ | generalize Wn.heap.size = n7 at hB7 hge7 hgx7 ⊢
                  first | generalize World.alloc _ _ = Wn at hB7 hB8 hFr hFx ⊢ | generalize World.alloc _ _ = Wn at hB7 hFr hFx ⊢
                  have hTn := HT.out _ hFr
                  refine hK.out (At St) _ _ (fun _ h => h) (fun _ => by (assumption)) ?_
                  clear hK K
                  try simp only [Act.put, List.setIfInBounds_toArray, List.set_cons_zero, List.set_cons_succ]
                  refine rt_one 25 rfl (by kernel_rfl) (fun K hK => ?_)
                  have b0 := Blk.cell hB7 0
                  have b1 := Blk.cell hB7 1
                  have bf := Blk.frozen hB7
                  simp only [List.getElem?_toArray, List.getElem?_cons_zero, List.getElem?_cons_succ] at b0 b1
                  go_simp
                  have hne : n8 ≠ n7 := by omega
                  replace hB8 := Blk.far2 hB8 hne (.bool p.1) (.float .f64 p.2)
                  replace hFr := hFr.set2 (.inr hge7) (.bool p.1) (.float .f64 p.2)
                  replace hFx := hFx.set2 (.inr hgx7) (.bool p.1) (.float .f64 p.2)
                  clear b0 b1 bf hne
                  generalize World.setCell _ _ _ = Wn at hB8 hFr hFx ⊢
                  have hTn := HT.out _ hFr
                  refine hK.out (At St) _ _ (fun _ h => h) (fun _ => by (assumption)) ?_
                  clear hK K
                  try simp only [Act.put, List.setIfInBounds_toArray, List.set_cons_zero, List.set_cons_succ]
                  refine rt_one 26 rfl (by kernel_rfl) (fun K hK => ?_)
                  have b0 := Blk.cell hB8 0
                  have b1 := Blk.cell hB8 1
                  have bf := Blk.frozen hB8
                  simp only [List.getElem?_toArray, List.getElem?_cons_zero, List.getElem?_cons_succ] at b0 b1
                  go_simp
                  replace hB8 := Blk.set2 hB8 (u := .bool q.1) (v := .float .f64 q.2)
                  replace hFx := hFx.set2 (.inr hgx8) (.bool q.1) (.float .f64 q.2)
                  clear b0 b1 bf hFr
                  generalize World.setCell _ _ _ = Wn at hB8 hFx ⊢
                  refine hK.out (At St) _ _ (fun _ h => h) (late_abs (by kernel_rfl)) ?_
                  clear hK K
                  try simp only [Act.put, List.setIfInBounds_toArray, List.set_cons_zero, List.set_cons_succ]
                  refine rt_done (by kernel_rfl) ?_
                  all_goals exact cont2 _ _ _ _ _ n7 n8 q Wn hq hqo hB8 hFx
                exact AllNextt.nil
                all_goals exact cont2 _ _ _ _ _ n7 n8 q Wn hq hqo hB8 hFx
              refine AllNextt.cons rfl (fun K hK => ?_) ?_
              · skip
                go_simp
                have hge7 := hFr.size
                have hgx7 := hFx.size
                try have hlt8 := Blk.lt hB8
                have hB7 := Blk.new Wn 53 #[.bool false, .float .f64 0]
                try replace hB8 := Blk.alloc hB8 (.cells #[.bool false, .float .f64 0] 53)
                replace hFr := hFr.alloc (.cells #[.bool false, .float .f64 0] 53)
                replace hFx := hFx.alloc (.cells #[.bool false, .float .f64 0] 53)
                first | generalize Wn.heap.size = n7 at hB7 hlt8 hge7 hgx7 ⊢ | generalize Wn.heap.size = n7 at hB7 hge7 hgx7 ⊢
                first | generalize World.alloc _ _ = Wn at hB7 hB8 hFr hFx ⊢ | generalize World.alloc _ _ = Wn at hB7 hFr hFx ⊢
                have hTn := HT.out _ hFr
                refine hK.out (At St) _ _ (fun _ h => h) (fun _ => by (assumption)) ?_
                clear hK K
                try simp only [Act.put, List.setIfInBounds_toArray, List.set_cons_zero, List.set_cons_succ]
                refine rt_ready [19, 24] (by kernel_rfl) (by simp) ?_
                refine AllNextt.cons rfl (fun K hK => ?_) ?_
                · skip
                  go_simp
                  refine (ref_do u (cmx (itx L k).2 j) Wn huo HCG.out).mono ?_
                  rintro r Wm ⟨p, q, rfl, hp, hq, hpo, hqo, hF1⟩
                  rw [hu] at hq
                  replace hFr := hFr.trans hF1
                  replace hFx := hFx.trans hF1
                  try replace hB7 := Blk.fr hB7 hF1 (fun h => h)
                  try replace hB8 := Blk.fr hB8 hF1 (fun h => h)
                  clear hF1 hp hu
                  generalize Wm = Wn at *
                  have hTn := HT.out _ hFr
                  go_wp2_with fail
                  refine hK.out (At St) _ _ (fun _ h => h) (fun _ => by (assumption)) ?_
                  clear hK K
                  try simp only [Act.put, List.setIfInBounds_toArray, List.set_cons_zero, List.set_cons_succ]
                  refine rt_free 20 (v := ?_) rfl (by kernel_rfl) (by kernel_rfl) (by kernel_rfl) (by kernel_rfl) (fun _ _ _ h => h) (by rfl) (fun _ => by first | assumption | exact HS0 _ rfl | exact HT.out _ (by repeat (first | exact Fr.refl _ _ | apply Fr.drew | refine Fr.alloc ?_ _))) ?_ ?_
                  rotate_left 1
                  · intro w; go_simp <;> with_reducible rfl
                  try simp only [Act.put, List.setIfInBounds_toArray, List.set_cons_zero, List.set_cons_succ]
                  refine rt_free 21 (v := ?_) rfl (by kernel_rfl) (by kernel_rfl) (by kernel_rfl) (by kernel_rfl) (fun _ _ _ h => h) (by rfl) (fun _ => by first | assumption | exact HS0 _ rfl | exact HT.out _ (by repeat (first | exact Fr.refl _ _ | apply Fr.drew | refine Fr.alloc ?_ _))) ?_ ?_
                  rotate_left 1
                  · intro w; go_simp <;> with_reducible rfl
                  try simp only [Act.put, List.setIfInBounds_toArray, List.set_cons_zero, List.set_cons_succ]
                  refine rt_free 22 (v := ?_) rfl (by kernel_rfl) (by kernel_rfl) (by kernel_rfl) (by kernel_rfl) (fun _ _ _ h => h) (by rfl) (fun _ => by first | assumption | exact HS0 _ rfl | exact HT.out _ (by repeat (first | exact Fr.refl _ _ | apply Fr.drew | refine Fr.alloc ?_ _))) ?_ ?_
                  rotate_left 1
                  · intro w; go_simp <;> with_reducible rfl
                  try simp only [Act.put, List.setIfInBounds_toArray, List.set_cons_zero, List.set_cons_succ]
                  refine rt_one 24 rfl (by kernel_rfl) (fun K hK => ?_)
                  go_simp
                  have hge8 := hFr.size
                  have hgx8 := hFx.size
                  try have hlt7 := Blk.lt hB7
                  have hB8 := Blk.new Wn 53 #[.bool false, .float .f64 0]
                  try replace hB7 := Blk.alloc hB7 (.cells #[.bool false, .float .f64 0] 53)
                  replace hFr := hFr.alloc (.cells #[.bool false, .float .f64 0] 53)
                  replace hFx := hFx.alloc (.cells #[.bool false, .float .f64 0] 53)
                  first | generalize Wn.heap.size = n8 at hB8 hlt7 hge8 hgx8 ⊢ | generalize Wn.heap.size = n8 at hB8 hge8 hgx8 ⊢
                  first | generalize World.alloc _ _ = Wn at hB7 hB8 hFr hFx ⊢ | generalize World.alloc _ _ = Wn at hB8 hFr hFx ⊢
                  have hTn := HT.out _ hFr
                  refine hK.out (At St) _ _ (fun _ h => h) (fun _ => by (assumption)) ?_
                  clear hK K
                  try simp only [Act.put, List.setIfInBounds_toArray, List.set_cons_zero, List.set_cons_succ]
                  refine rt_one 25 rfl (by kernel_rfl) (fun K hK => ?_)
                  have b0 := Blk.cell hB7 0
                  have b1 := Blk.cell hB7 1
                  have bf := Blk.frozen hB7
                  simp only [List.getElem?_toArray, List.getElem?_cons_zero, List.getElem?_cons_succ] at b0 b1
                  go_simp
                  have hne : n8 ≠ n7 := by omega
                  replace hB8 := Blk.far2 hB8 hne (.bool p.1) (.float .f64 p.2)
                  replace hFr := hFr.set2 (.inr hge7) (.bool p.1) (.float .f64 p.2)
                  replace hFx := hFx.set2 (.inr hgx7) (.bool p.1) (.float .f64 p.2)
                  clear b0 b1 bf hne
                  generalize World.setCell _ _ _ = Wn at hB8 hFr hFx ⊢
                  have hTn := HT.out _ hFr
                  refine hK.out (At St) _ _ (fun _ h => h) (fun _ => by (assumption)) ?_
                  clear hK K
                  try simp only [Act.put, List.setIfInBounds_toArray, List.set_cons_zero, List.set_cons_succ]
                  refine rt_one 26 rfl (by kernel_rfl) (fun K hK => ?_)
                  have b0 := Blk.cell hB8 0
                  have b1 := Blk.cell hB8 1
                  have bf := Blk.frozen hB8
                  simp only [List.getElem?_toArray, List.getElem?_cons_zero, List.getElem?_cons_succ] at b0 b1
                  go_simp
                  replace hB8 := Blk.set2 hB8 (u := .bool q.1) (v := .float .f64 q.2)
                  replace hFx := hFx.set2 (.inr hgx8) (.bool q.1) (.float .f64 q.2)
                  clear b0 b1 bf hFr
                  generalize World.setCell _ _ _ = Wn at hB8 hFx ⊢
                  refine hK.out (At St) _ _ (fun _ h => h) (late_abs (by kernel_rfl)) ?_
                  clear hK K
                  try simp only [Act.put, List.setIfInBounds_toArray, List.set_cons_zero, List.set_cons_succ]
                  refine rt_done (by kernel_rfl) ?_
                  all_goals exact cont2 _ _ _ _ _ n7 n8 q Wn hq hqo hB8 hFx
                refine AllNextt.cons rfl (fun K hK => ?_) ?_
                · skip
                  go_simp
                  have hge8 := hFr.size
                  have hgx8 := hFx.size
                  try have hlt7 := Blk.lt hB7
                  have hB8 := Blk.new Wn 53 #[.bool false, .float .f64 0]
                  try replace hB7 := Blk.alloc hB7 (.cells #[.bool false, .float .f64 0] 53)
                  replace hFr := hFr.alloc (.cells #[.bool false, .float .f64 0] 53)
                  replace hFx := hFx.alloc (.cells #[.bool false, .float .f64 0] 53)
                  first | generalize Wn.heap.size = n8 at hB8 hlt7 hge8 hgx8 ⊢ | generalize Wn.heap.size = n8 at hB8 hge8 hgx8 ⊢
                  first | generalize World.alloc _ _ = Wn at hB7 hB8 hFr hFx ⊢ | generalize World.alloc _ _ = Wn at hB8 hFr hFx ⊢
                  have hTn := HT.out _ hFr
                  refine hK.out (At St) _ _ (fun _ h => h) (fun _ => by (assumption)) ?_
                  clear hK K
                  try simp only [Act.put, List.setIfInBounds_toArray, List.set_cons_zero, List.set_cons_succ]
                  refine rt_one 19 rfl (by kernel_rfl) (fun K hK => ?_)
                  go_simp
                  refine (ref_do u (cmx (itx L k).2 j) Wn huo HCG.out).mono ?_
                  rintro r Wm ⟨p, q, rfl, hp, hq, hpo, hqo, hF1⟩
                  rw [hu] at hq
                  replace hFr := hFr.trans hF1
                  replace hFx := hFx.trans hF1
                  try replace hB7 := Blk.fr hB7 hF1 (fun h => h)
                  try replace hB8 := Blk.fr hB8 hF1 (fun h => h)
                  clear hF1 hp hu
                  generalize Wm = Wn at *
                  have hTn := HT.out _ hFr
                  go_wp2_with fail
                  refine hK.out (At St) _ _ (fun _ h => h) (fun _ => by (assumption)) ?_
                  clear hK K
                  try simp only [Act.put, List.setIfInBounds_toArray, List.set_cons_zero, List.set_cons_succ]
                  refine rt_free 20 (v := ?_) rfl (by kernel_rfl) (by kernel_rfl) (by kernel_rfl) (by kernel_rfl) (fun _ _ _ h => h) (by rfl) (fun _ => by first | assumption | exact HS0 _ rfl | exact HT.out _ (by repeat (first | exact Fr.refl _ _ | apply Fr.drew | refine Fr.alloc ?_ _))) ?_ ?_
                  rotate_left 1
                  · intro w; go_simp <;> with_reducible rfl
                  try simp only [Act.put, List.setIfInBounds_toArray, List.set_cons_zero, List.set_cons_succ]
                  refine rt_free 21 (v := ?_) rfl (by kernel_rfl) (by kernel_rfl) (by kernel_rfl) (by kernel_rfl) (fun _ _ _ h => h) (by rfl) (fun _ => by first | assumption | exact HS0 _ rfl | exact HT.out _ (by repeat (first | exact Fr.refl _ _ | apply Fr.drew | refine Fr.alloc ?_ _))) ?_ ?_
                  rotate_left 1
                  · intro w; go_simp <;> with_reducible rfl
                  try simp only [Act.put, List.setIfInBounds_toArray, List.set_cons_zero, List.set_cons_succ]
                  refine rt_free 22 (v := ?_) rfl (by kernel_rfl) (by kernel_rfl) (by kernel_rfl) (by kernel_rfl) (fun _ _ _ h => h) (by rfl) (fun _ => by first | assumption | exact HS0 _ rfl | exact HT.out _ (by repeat (first | exact Fr.refl _ _ | apply Fr.drew | refine Fr.alloc ?_ _))) ?_ ?_
                  rotate_left 1
                  · intro w; go_simp <;> with_reducible rfl
                  try simp only [Act.put, List.setIfInBounds_toArray, List.set_cons_zero, List.set_cons_succ]
                  refine rt_one 25 rfl (by kernel_rfl) (fun K hK => ?_)
                  have b0 := Blk.cell hB7 0
                  have b1 := Blk.cell hB7 1
                  have bf := Blk.frozen hB7
                  simp only [List.getElem?_toArray, List.getElem?_cons_zero, List.getElem?_cons_succ] at b0 b1
                  go_simp
                  have hne : n8 ≠ n7 := by omega
                  replace hB8 := Blk.far2 hB8 hne (.bool p.1) (.float .f64 p.2)
                  replace hFr := hFr.set2 (.inr hge7) (.bool p.1) (.float .f64 p.2)
                  replace hFx := hFx.set2 (.inr hgx7) (.bool p.1) (.float .f64 p.2)
                  clear b0 b1 bf hne
                  generalize World.setCell _ _ _ = Wn at hB8 hFr hFx ⊢
                  have hTn := HT.out _ hFr
                  refine hK.out (At St) _ _ (fun _ h => h) (fun _ => by (assumption)) ?_
                  clear hK K
                  try simp only [Act.put, List.setIfInBounds_toArray, List.set_cons_zero, List.set_cons_succ]
                  refine rt_one 26 rfl (by kernel_rfl) (fun K hK => ?_)
                  have b0 := Blk.cell hB8 0
                  have b1 := Blk.cell hB8 1
                  have bf := Blk.frozen hB8
                  simp only [List.getElem?_toArray, List.getElem?_cons_zero, List.getElem?_cons_succ] at b0 b1
                  go_simp
                  replace hB8 := Blk.set2 hB8 (u := .bool q.1) (v := .float .f64 q.2)
                  replace hFx := hFx.set2 (.inr hgx8) (.bool q.1) (.float .f64 q.2)
                  clear b0 b1 bf hFr
                  generalize World.setCell _ _ _ = Wn at hB8 hFx ⊢
                  refine hK.out (At St) _ _ (fun _ h => h) (late_abs (by kernel_rfl)) ?_
                  clear hK K
                  try simp only [Act.put, List.setIfInBounds_toArray, List.set_cons_zero, List.set_cons_succ]
                  refine rt_done (by kernel_rfl) ?_
                  all_goals exact cont2 _ _ _ _ _ n7 n8 q Wn hq hqo hB8 hFx
                exact AllNextt.nil
                all_goals exact cont2 _ _ _ _ _ n7 n8 q Wn hq hqo hB8 hFx
              refine AllNextt.cons rfl (fun K hK => ?_) ?_
              · skip
                go_simp
                have hge8 := hFr.size
                have hgx8 := hFx.size
                try have hlt7 := Blk.lt hB7
                have hB8 := Blk.new Wn 53 #[.bool false, .float .f64 0]
                try replace hB7 := Blk.alloc hB7 (.cells #[.bool false, .float .f64 0] 53)
                replace hFr := hFr.alloc (.cells #[.bool false, .float .f64 0] 53)
                replace hFx := hFx.alloc (.cells #[.bool false, .float .f64 0] 53)
                first | generalize Wn.heap.size = n8 at hB8 hlt7 hge8 hgx8 ⊢ | generalize Wn.heap.size = n8 at hB8 hge8 hgx8 ⊢
                first | generalize World.alloc _ _ = Wn at hB7 hB8 hFr hFx ⊢ | generalize World.alloc _ _ = Wn at hB8 hFr hFx ⊢
                have hTn := HT.out _ hFr
                refine hK.out (At St) _ _ (fun _ h => h) (fun _ => by (assumption)) ?_
                clear hK K
                try simp only [Act.put, List.setIfInBounds_toArray, List.set_cons_zero, List.set_cons_succ]
                refine rt_ready [19, 23] (by kernel_rfl) (by simp) ?_
                refine AllNextt.cons rfl (fun K hK => ?_) ?_
                · skip
                  go_simp
                  refine (ref_do u (cmx (itx L k).2 j) Wn huo HCG.out).mono ?_
                  rintro r Wm ⟨p, q, rfl, hp, hq, hpo, hqo, hF1⟩
                  rw [hu] at hq
                  replace hFr := hFr.trans hF1
                  replace hFx := hFx.trans hF1
                  try replace hB7 := Blk.fr hB7 hF1 (fun h => h)
                  try replace hB8 := Blk.fr hB8 hF1 (fun h => h)
                  clear hF1 hp hu
                  generalize Wm = Wn at *
                  have hTn := HT.out _ hFr
                  go_wp2_with fail
                  refine hK.out (At St) _ _ (fun _ h => h) (fun _ => by (assumption)) ?_
                  clear hK K
                  try simp only [Act.put, List.setIfInBounds_toArray, List.set_cons_zero, List.set_cons_succ]
                  refine rt_free 20 (v := ?_) rfl (by kernel_rfl) (by kernel_rfl) (by kernel_rfl) (by kernel_rfl) (fun _ _ _ h => h) (by rfl) (fun _ => by first | assumption | exact HS0 _ rfl | exact HT.out _ (by repeat (first | exact Fr.refl _ _ | apply Fr.drew | refine Fr.alloc ?_ _))) ?_ ?_
                  rotate_left 1
                  · intro w; go_simp <;> with_reducible rfl
                  try simp only [Act.put, List.setIfInBounds_toArray, List.set_cons_zero, List.set_cons_succ]
                  refine rt_free 21 (v := ?_) rfl (by kernel_rfl) (by kernel_rfl) (by kernel_rfl) (by kernel_rfl) (fun _ _ _ h => h) (by rfl) (fun _ => by first | assumption | exact HS0 _ rfl | exact HT.out _ (by repeat (first | exact Fr.refl _ _ | apply Fr.drew | refine Fr.alloc ?_ _))) ?_ ?_
                  rotate_left 1
                  · intro w; go_simp <;> with_reducible rfl
                  try simp only [Act.put, List.setIfInBounds_toArray, List.set_cons_zero, List.set_cons_succ]
                  refine rt_free 22 (v := ?_) rfl (by kernel_rfl) (by kernel_rfl) (by kernel_rfl) (by kernel_rfl) (fun _ _ _ h => h) (by rfl) (fun _ => by first | assumption | exact HS0 _ rfl | exact HT.out _ (by repeat (first | exact Fr.refl _ _ | apply Fr.drew | refine Fr.alloc ?_ _))) ?_ ?_
                  rotate_left 1
                  · intro w; go_simp <;> with_reducible rfl
                  try simp only [Act.put, List.setIfInBounds_toArray, List.set_cons_zero, List.set_cons_succ]
                  refine rt_one 23 rfl (by kernel_rfl) (fun K hK => ?_)
                  go_simp
                  have hge7 := hFr.size
                  have hgx7 := hFx.size
                  try have hlt8 := Blk.lt hB8
                  have hB7 := Blk.new Wn 53 #[.bool false, .float .f64 0]
                  try replace hB8 := Blk.alloc hB8 (.cells #[.bool false, .float .f64 0] 53)
                  replace hFr := hFr.alloc (.cells #[.bool false, .float .f64 0] 53)
                  replace hFx := hFx.alloc (.cells #[.bool false, .float .f64 0] 53)
                  first | generalize Wn.heap.size = n7 at hB7 hlt8 hge7 hgx7 ⊢ | generalize Wn.heap.size = n7 at hB7 hge7 hgx7 ⊢
                  first | generalize World.alloc _ _ = Wn at hB7 hB8 hFr hFx ⊢ | generalize World.alloc _ _ = Wn at hB7 hFr hFx ⊢
                  have hTn := HT.out _ hFr
                  refine hK.out (At St) _ _ (fun _ h => h) (fun _ => by (assumption)) ?_
                  clear hK K
                  try simp only [Act.put, List.setIfInBounds_toArray, List.set_cons_zero, List.set_cons_succ]
                  refine rt_one 25 rfl (by kernel_rfl) (fun K hK => ?_)
                  have b0 := Blk.cell hB7 0
                  have b1 := Blk.cell hB7 1
                  have bf := Blk.frozen hB7
                  simp only [List.getElem?_toArray, List.getElem?_cons_zero, List.getElem?_cons_succ] at b0 b1
                  go_simp
                  have hne : n8 ≠ n7 := by omega
                  replace hB8 := Blk.far2 hB8 hne (.bool p.1) (.float .f64 p.2)
                  replace hFr := hFr.set2 (.inr hge7) (.bool p.1) (.float .f64 p.2)
                  replace hFx := hFx.set2 (.inr hgx7) (.bool p.1) (.float .f64 p.2)
                  clear b0 b1 bf hne
                  generalize World.setCell _ _ _ = Wn at hB8 hFr hFx ⊢
                  have hTn := HT.out _ hFr
                  refine hK.out (At St) _ _ (fun _ h => h) (fun _ => by (assumption)) ?_
                  clear hK K
                  try simp only [Act.put, List.setIfInBounds_toArray, List.set_cons_zero, List.set_cons_succ]
                  refine rt_one 26 rfl (by kernel_rfl) (fun K hK => ?_)
                  have b0 := Blk.cell hB8 0
                  have b1 := Blk.cell hB8 1
                  have bf := Blk.frozen hB8
                  simp only [List.getElem?_toArray, List.getElem?_cons_zero, List.getElem?_cons_succ] at b0 b1
                  go_simp
                  replace hB8 := Blk.set2 hB8 (u := .bool q.1) (v := .float .f64 q.2)
                  replace hFx := hFx.set2 (.inr hgx8) (.bool q.1) (.float .f64 q.2)
                  clear b0 b1 bf hFr
                  generalize World.setCell _ _ _ = Wn at hB8 hFx ⊢
                  refine hK.out (At St) _ _ (fun _ h => h) (late_abs (by kernel_rfl)) ?_
                  clear hK K
                  try simp only [Act.put, List.setIfInBounds_toArray, List.set_cons_zero, List.set_cons_succ]
                  refine rt_done (by kernel_rfl) ?_
                  all_goals exact cont2 _ _ _ _ _ n7 n8 q Wn hq hqo hB8 hFx
                refine AllNextt.cons rfl (fun K hK => ?_) ?_
                · skip
                  go_simp
                  have hge7 := hFr.size
                  have hgx7 := hFx.size
                  try have hlt8 := Blk.lt hB8
                  have hB7 := Blk.new Wn 53 #[.bool false, .float .f64 0]
                  try replace hB8 := Blk.alloc hB8 (.cells #[.bool false, .float .f64 0] 53)
                  replace hFr := hFr.alloc (.cells #[.bool false, .float .f64 0] 53)
                  replace hFx := hFx.alloc (.cells #[.bool false, .float .f64 0] 53)
                  first | generalize Wn.heap.size = n7 at hB7 hlt8 hge7 hgx7 ⊢ | generalize Wn.heap.size = n7 at hB7 hge7 hgx7 ⊢
                  first | generalize World.alloc _ _ = Wn at hB7 hB8 hFr hFx ⊢ | generalize World.alloc _ _ = Wn at hB7 hFr hFx ⊢
                  have hTn := HT.out _ hFr
                  refine hK.out (At St) _ _ (fun _ h => h) (fun _ => by (assumption)) ?_
                  clear hK K
                  try simp only [Act.put, List.setIfInBounds_toArray, List.set_cons_zero, List.set_cons_succ]
                  refine rt_one 19 rfl (by kernel_rfl) (fun K hK => ?_)
                  go_simp
                  refine (ref_do u (cmx (itx L k).2 j) Wn huo HCG.out).mono ?_
                  rintro r Wm ⟨p, q, rfl, hp, hq, hpo, hqo, hF1⟩
                  rw [hu] at hq
                  replace hFr := hFr.trans hF1
                  replace hFx := hFx.trans hF1
                  try replace hB7 := Blk.fr hB7 hF1 (fun h => h)
                  try replace hB8 := Blk.fr hB8 hF1 (fun h => h)
                  clear hF1 hp hu
                  generalize Wm = Wn at *
                  have hTn := HT.out _ hFr
                  go_wp2_with fail
                  refine hK.out (At St) _ _ (fun _ h => h) (fun _ => by (assumption)) ?_
                  clear hK K
                  try simp only [Act.put, List.setIfInBounds_toArray, List.set_cons_zero, List.set_cons_succ]
                  refine rt_free 20 (v := ?_) rfl (by kernel_rfl) (by kernel_rfl) (by kernel_rfl) (by kernel_rfl) (fun _ _ _ h => h) (by rfl) (fun _ => by first | assumption | exact HS0 _ rfl | exact HT.out _ (by repeat (first | exact Fr.refl _ _ | apply Fr.drew | refine Fr.alloc ?_ _))) ?_ ?_
                  rotate_left 1
                  · intro w; go_simp <;> with_reducible rfl
                  try simp only [Act.put, List.setIfInBounds_toArray, List.set_cons_zero, List.set_cons_succ]
                  refine rt_free 21 (v := ?_) rfl (by kernel_rfl) (by kernel_rfl) (by kernel_rfl) (by kernel_rfl) (fun _ _ _ h => h) (by rfl) (fun _ => by first | assumption | exact HS0 _ rfl | exact HT.out _ (by repeat (first | exact Fr.refl _ _ | apply Fr.drew | refine Fr.alloc ?_ _))) ?_ ?_
                  rotate_left 1
                  · intro w; go_simp <;> with_reducible rfl
                  try simp only [Act.put, List.setIfInBounds_toArray, List.set_cons_zero, List.set_cons_succ]
                  refine rt_free 22 (v := ?_) rfl (by kernel_rfl) (by kernel_rfl) (by kernel_rfl) (by kernel_rfl) (fun _ _ _ h => h) (by rfl) (fun _ => by first | assumption | exact HS0 _ rfl | exact HT.out _ (by repeat (first | exact Fr.refl _ _ | apply Fr.drew | refine Fr.alloc ?_ _))) ?_ ?_
                  rotate_left 1
                  · intro w; go_simp <;> with_reducible rfl
                  try simp only [Act.put, List.setIfInBounds_toArray, List.set_cons_zero, List.set_cons_succ]
                  refine rt_one 25 rfl (by kernel_rfl) (fun K hK => ?_)
                  have b0 := Blk.cell hB7 0
                  have b1 := Blk.cell hB7 1
                  have bf := Blk.frozen hB7
                  simp only [List.getElem?_toArray, List.getElem?_cons_zero, List.getElem?_cons_succ] at b0 b1
                  go_simp
                  have hne : n8 ≠ n7 := by omega
                  replace hB8 := Blk.far2 hB8 hne (.bool p.1) (.float .f64 p.2)
                  replace hFr := hFr.set2 (.inr hge7) (.bool p.1) (.float .f64 p.2)
                  replace hFx := hFx.set2 (.inr hgx7) (.bool p.1) (.float .f64 p.2)
                  clear b0 b1 bf hne
                  generalize World.setCell _ _ _ = Wn at hB8 hFr hFx ⊢
                  have hTn := HT.out _ hFr
                  refine hK.out (At St) _ _ (fun _ h => h) (fun _ => by (assumption)) ?_
                  clear hK K
                  try simp only [Act.put, List.setIfInBounds_toArray, List.set_cons_zero, List.set_cons_succ]
                  refine rt_one 26 rfl (by kernel_rfl) (fun K hK => ?_)
                  have b0 := Blk.cell hB8 0
                  have b1 := Blk.cell hB8 1
                  have bf := Blk.frozen hB8
                  simp only [List.getElem?_toArray, List.getElem?_cons_zero, List.getElem?_cons_succ] at b0 b1
                  go_simp
                  replace hB8 := Blk.set2 hB8 (u := .bool q.1) (v := .float .f64 q.2)
                  replace hFx := hFx.set2 (.inr hgx8) (.bool q.1) (.float .f64 q.2)
                  clear b0 b1 bf hFr
                  generalize World.setCell _ _ _ = Wn at hB8 hFx ⊢
                  refine hK.out (At St) _ _ (fun _ h => h) (late_abs (by kernel_rfl)) ?_
                  clear hK K
                  try simp only [Act.put, List.setIfInBounds_toArray, List.set_cons_zero, List.set_cons_succ]
                  refine rt_done (by kernel_rfl) ?_
                  all_goals exact cont2 _ _ _ _ _ n7 n8 q Wn hq hqo hB8 hFx
                exact AllNextt.nil
                all_goals exact cont2 _ _ _ _ _ n7 n8 q Wn hq hqo hB8 hFx
              exact AllNextt.nil
              all_goals exact cont2 _ _ _ _ _ n7 n8 q Wn hq hqo hB8 hFx
            refine AllNextt.cons rfl (fun K hK => ?_) ?_
            · skip
              go_simp
              have hge7 := hFr.size
              have hgx7 := hFx.size
              try have hlt8 := Blk.lt hB8
              have hB7 := Blk.new Wn 53 #[.bool false, .float .f64 0]
              try replace hB8 := Blk.alloc hB8 (.cells #[.bool false, .float .f64 0] 53)
              replace hFr := hFr.alloc (.cells #[.bool false, .float .f64 0] 53)
              replace hFx := hFx.alloc (.cells #[.bool false, .float .f64 0] 53)
              first | generalize Wn.heap.size = n7 at hB7 hlt8 hge7 hgx7 ⊢ | generalize Wn.heap.size = n7 at hB7 hge7 hgx7 ⊢
              first | generalize World.alloc _ _ = Wn at hB7 hB8 hFr hFx ⊢ | generalize World.alloc _ _ = Wn at hB7 hFr hFx ⊢
              have hTn := HT.out _ hFr
              refine hK.out (At St) _ _ (fun _ h => h) (fun _ => by (assumption)) ?_
              clear hK K
              try simp only [Act.put, List.setIfInBounds_toArray, List.set_cons_zero, List.set_cons_succ]
              refine rt_ready [10, 24] (by kernel_rfl) (by simp) ?_
              refine AllNextt.cons rfl (fun K hK => ?_) ?_
              · skip
                go_simp
                refine (ref_cell13 A5 (k + 1) c5 _ (cmx (itx L k).2 j).2.1 Wn (Kd.C_below HCa.out (hFx.below (fun _ _ h => h))) HIG.out (by omega)).mono ?_
                rintro r Wm ⟨u, rfl, hu, huo, hF1⟩
                rw [HAC.out] at hu
                replace hFr := hFr.trans hF1
                replace hFx := hFx.trans hF1
                try replace hB7 := Blk.fr hB7 hF1 (fun h => h)
                try replace hB8 := Blk.fr hB8 hF1 (fun h => h)
                clear hF1
                generalize Wm = Wn at *
                have hTn := HT.out _ hFr
                go_wp2_with fail
                refine hK.out (At St) _ _ (fun _ h => h) (fun _ => by (assumption)) ?_
                clear hK K
                try simp only [Act.put, List.setIfInBounds_toArray, List.set_cons_zero, List.set_cons_succ]
                refine rt_ready [19, 24] (by kernel_rfl) (by simp) ?_
                refine AllNextt.cons rfl (fun K hK => ?_) ?_
                · skip
                  go_simp
                  refine (ref_do u (cmx (itx L k).2 j) Wn huo HCG.out).mono ?_
                  rintro r Wm ⟨p, q, rfl, hp, hq, hpo, hqo, hF1⟩
                  rw [hu] at hq
                  replace hFr := hFr.trans hF1
                  replace hFx := hFx.trans hF1
                  try replace hB7 := Blk.fr hB7 hF1 (fun h => h)
                  try replace hB8 := Blk.fr hB8 hF1 (fun h => h)
                  clear hF1 hp hu
                  generalize Wm = Wn at *
                  have hTn := HT.out _ hFr
                  go_wp2_with fail
                  refine hK.out (At St) _ _ (fun _ h => h) (fun _ => by (assumption)) ?_
                  clear hK K
                  try simp only [Act.put, List.setIfInBounds_toArray, List.set_cons_zero, List.set_cons_succ]
                  refine rt_free 20 (v := ?_) rfl (by kernel_rfl) (by kernel_rfl) (by kernel_rfl) (by kernel_rfl) (fun _ _ _ h => h) (by rfl) (fun _ => by first | assumption | exact HS0 _ rfl | exact HT.out _ (by repeat (first | exact Fr.refl _ _ | apply Fr.drew | refine Fr.alloc ?_ _))) ?_ ?_
                  rotate_left 1
                  · intro w; go_simp <;> with_reducible rfl
                  try simp only [Act.put, List.setIfInBounds_toArray, List.set_cons_zero, List.set_cons_succ]
                  refine rt_free 21 (v := ?_) rfl (by kernel_rfl) (by kernel_rfl) (by kernel_rfl) (by kernel_rfl) (fun _ _ _ h => h) (by rfl) (fun _ => by first | assumption | exact HS0 _ rfl | exact HT.out _ (by repeat (first | exact Fr.refl _ _ | apply Fr.drew | refine Fr.alloc ?_ _))) ?_ ?_
                  rotate_left 1
                  · intro w; go_simp <;> with_reducible rfl
                  try simp only [Act.put, List.setIfInBounds_toArray, List.set_cons_zero, List.set_cons_succ]
                  refine rt_free 22 (v := ?_) rfl (by kernel_rfl) (by kernel_rfl) (by kernel_rfl) (by kernel_rfl) (fun _ _ _ h => h) (by rfl) (fun _ => by first | assumption | exact HS0 _ rfl | exact HT.out _ (by repeat (first | exact Fr.refl _ _ | apply Fr.drew | refine Fr.alloc ?_ _))) ?_ ?_
                  rotate_left 1
                  · intro w; go_simp <;> with_reducible rfl
                  try simp only [Act.put, List.setIfInBounds_toArray, List.set_cons_zero, List.set_cons_succ]
                  refine rt_one 24 rfl (by kernel_rfl) (fun K hK => ?_)
                  go_simp
                  have hge8 := hFr.size
                  have hgx8 := hFx.size
                  try have hlt7 := Blk.lt hB7
                  have hB8 := Blk.new Wn 53 #[.bool false, .float .f64 0]
                  try replace hB7 := Blk.alloc hB7 (.cells #[.bool false, .float .f64 0] 53)
                  replace hFr := hFr.alloc (.cells #[.bool false, .float .f64 0] 53)
                  replace hFx := hFx.alloc (.cells #[.bool false, .float .f64 0] 53)
                  first | generalize Wn.heap.size = n8 at hB8 hlt7 hge8 hgx8 ⊢ | generalize Wn.heap.size = n8 at hB8 hge8 hgx8 ⊢
                  first | generalize World.alloc _ _ = Wn at hB7 hB8 hFr hFx ⊢ | generalize World.alloc _ _ = Wn at hB8 hFr hFx ⊢
                  have hTn := HT.out _ hFr
                  refine hK.out (At St) _ _ (fun _ h => h) (fun _ => by (assumption)) ?_
                  clear hK K
                  try simp only [Act.put, List.setIfInBounds_toArray, List.set_cons_zero, List.set_cons_succ]
                  refine rt_one 25 rfl (by kernel_rfl) (fun K hK => ?_)
                  have b0 := Blk.cell hB7 0
                  have b1 := Blk.cell hB7 1
                  have bf := Blk.frozen hB7
                  simp only [List.getElem?_toArray, List.getElem?_cons_zero, List.getElem?_cons_succ] at b0 b1
                  go_simp
                  have hne : n8 ≠ n7 := by omega
                  replace hB8 := Blk.far2 hB8 hne (.bool p.1) (.float .f64 p.2)
                  replace hFr := hFr.set2 (.inr hge7) (.bool p.1) (.float .f64 p.2)
                  replace hFx := hFx.set2 (.inr hgx7) (.bool p.1) (.float .f64 p.2)
                  clear b0 b1 bf hne
                  generalize World.setCell _ _ _ = Wn at hB8 hFr hFx ⊢
                  have hTn := HT.out _ hFr
                  refine hK.out (At St) _ _ (fun _ h => h) (fun _ => by (assumption)) ?_
                  clear hK K
                  try simp only [Act.put, List.setIfInBounds_toArray, List.set_cons_zero, List.set_cons_succ]
                  refine rt_one 26 rfl (by kernel_rfl) (fun K hK => ?_)
                  have b0 := Blk.cell hB8 0
                  have b1 := Blk.cell hB8 1
                  have bf := Blk.frozen hB8
                  simp only [List.getElem?_toArray, List.getElem?_cons_zero, List.getElem?_cons_succ] at b0 b1
                  go_simp
                  replace hB8 := Blk.set2 hB8 (u := .bool q.1) (v := .float .f64 q.2)
                  replace hFx := hFx.set2 (.inr hgx8) (.bool q.1) (.float .f64 q.2)
                  clear b0 b1 bf hFr
                  generalize World.setCell _ _ _ = Wn at hB8 hFx ⊢
                  refine hK.out (At St) _ _ (fun _ h => h) (late_abs (by kernel_rfl)) ?_
                  clear hK K
                  try simp only [Act.put, List.setIfInBounds_toArray, List.set_cons_zero, List.set_cons_succ]
                  refine rt_done (by kernel_rfl) ?_
                  all_goals exact cont2 _ _ _ _ _ n7 n8 q Wn hq hqo hB8 hFx
                refine AllNextt.cons rfl (fun K hK => ?_) ?_
                · skip
                  go_simp
                  have hge8 := hFr.size
                  have hgx8 := hFx.size
                  try have hlt7 := Blk.lt hB7
                  have hB8 := Blk.new Wn 53 #[.bool false, .float .f64 0]
                  try replace hB7 := Blk.alloc hB7 (.cells #[.bool false, .float .f64 0] 53)
                  replace hFr := hFr.alloc (.cells #[.bool false, .float .f64 0] 53)
                  replace hFx := hFx.alloc (.cells #[.bool false, .float .f64 0] 53)
                  first | generalize Wn.heap.size = n8 at hB8 hlt7 hge8 hgx8 ⊢ | generalize Wn.heap.size = n8 at hB8 hge8 hgx8 ⊢
                  first | generalize World.alloc _ _ = Wn at hB7 hB8 hFr hFx ⊢ | generalize World.alloc _ _ = Wn at hB8 hFr hFx ⊢
                  have hTn := HT.out _ hFr
                  refine hK.out (At St) _ _ (fun _ h => h) (fun _ => by (assumption)) ?_
                  clear hK K
                  try simp only [Act.put, List.setIfInBounds_toArray, List.set_cons_zero, List.set_cons_succ]
                  refine rt_one 19 rfl (by kernel_rfl) (fun K hK => ?_)
                  go_simp
                  refine (ref_do u (cmx (itx L k).2 j) Wn huo HCG.out).mono ?_
                  rintro r Wm ⟨p, q, rfl, hp, hq, hpo, hqo, hF1⟩
                  rw [hu] at hq
                  replace hFr := hFr.trans hF1
                  replace hFx := hFx.trans hF1
                  try replace hB7 := Blk.fr hB7 hF1 (fun h => h)
                  try replace hB8 := Blk.fr hB8 hF1 (fun h => h)
                  clear hF1 hp hu
                  generalize Wm = Wn at *
                  have hTn := HT.out _ hFr
                  go_wp2_with fail
                  refine hK.out (At St) _ _ (fun _ h => h) (fun _ => by (assumption)) ?_
                  clear hK K
                  try simp only [Act.put, List.setIfInBounds_toArray, List.set_cons_zero, List.set_cons_succ]
                  refine rt_free 20 (v := ?_) rfl (by kernel_rfl) (by kernel_rfl) (by kernel_rfl) (by kernel_rfl) (fun _ _ _ h => h) (by rfl) (fun _ => by first | assumption | exact HS0 _ rfl | exact HT.out _ (by repeat (first | exact Fr.refl _ _ | apply Fr.drew | refine Fr.alloc ?_ _))) ?_ ?_
                  rotate_left 1
                  · intro w; go_simp <;> with_reducible rfl
                  try simp only [Act.put, List.setIfInBounds_toArray, List.set_cons_zero, List.set_cons_succ]
                  refine rt_free 21 (v := ?_) rfl (by kernel_rfl) (by kernel_rfl) (by kernel_rfl) (by kernel_rfl) (fun _ _ _ h => h) (by rfl) (fun _ => by first | assumption | exact HS0 _ rfl | exact HT.out _ (by repeat (first | exact Fr.refl _ _ | apply Fr.drew | refine Fr.alloc ?_ _))) ?_ ?_
                  rotate_left 1
                  · intro w; go_simp <;> with_reducible rfl
                  try simp only [Act.put, List.setIfInBounds_toArray, List.set_cons_zero, List.set_cons_succ]
                  refine rt_free 22 (v := ?_) rfl (by kernel_rfl) (by kernel_rfl) (by kernel_rfl) (by kernel_rfl) (fun _ _ _ h => h) (by rfl) (fun _ => by first | assumption | exact HS0 _ rfl | exact HT.out _ (by repeat (first | exact Fr.refl _ _ | apply Fr.drew | refine Fr.alloc ?_ _))) ?_ ?_
                  rotate_left 1
                  · intro w; go_simp <;> with_reducible rfl
                  try simp only [Act.put, List.setIfInBounds_toArray, List.set_cons_zero, List.set_cons_succ]
                  refine rt_one 25 rfl (by kernel_rfl) (fun K hK => ?_)
                  have b0 := Blk.cell hB7 0
                  have b1 := Blk.cell hB7 1
                  have bf := Blk.frozen hB7
                  simp only [List.getElem?_toArray, List.getElem?_cons_zero, List.getElem?_cons_succ] at b0 b1
                  go_simp
                  have hne : n8 ≠ n7 := by omega
                  replace hB8 := Blk.far2 hB8 hne (.bool p.1) (.float .f64 p.2)
                  replace hFr := hFr.set2 (.inr hge7) (.bool p.1) (.float .f64 p.2)
                  replace hFx := hFx.set2 (.inr hgx7) (.bool p.1) (.float .f64 p.2)
                  clear b0 b1 bf hne
                  generalize World.setCell _ _ _ = Wn at hB8 hFr hFx ⊢
                  have hTn := HT.out _ hFr
                  refine hK.out (At St) _ _ (fun _ h => h) (fun _ => by (assumption)) ?_
                  clear hK K
                  try simp only [Act.put, List.setIfInBounds_toArray, List.set_cons_zero, List.set_cons_succ]
                  refine rt_one 26 rfl (by kernel_rfl) (fun K hK => ?_)
                  have b0 := Blk.cell hB8 0
                  have b1 := Blk.cell hB8 1
                  have bf := Blk.frozen hB8
                  simp only [List.getElem?_toArray, List.getElem?_cons_zero, List.getElem?_cons_succ] at b0 b1
                  go_simp
                  replace hB8 := Blk.set2 hB8 (u := .bool q.1) (v := .float .f64 q.2)
                  replace hFx := hFx.set2 (.inr hgx8) (.bool q.1) (.float .f64 q.2)
                  clear b0 b1 bf hFr
                  generalize World.setCell _ _ _ = Wn at hB8 hFx ⊢
                  refine hK.out (At St) _ _ (fun _ h => h) (late_abs (by kernel_rfl)) ?_
                  clear hK K
                  try simp only [Act.put, List.setIfInBounds_toArray, List.set_cons_zero, List.set_cons_succ]
                  refine rt_done (by kernel_rfl) ?_
                  all_goals exact cont2 _ _ _ _ _ n7 n8 q Wn hq hqo hB8 hFx
                exact AllNextt.nil
                all_goals exact cont2 _ _ _ _ _ n7 n8 q Wn hq hqo hB8 hFx
              refine AllNextt.cons rfl (fun K hK => ?_) ?_
              · skip
                go_simp
                have hge8 := hFr.size
                have hgx8 := hFx.size
                try have hlt7 := Blk.lt hB7
                have hB8 := Blk.new Wn 53 #[.bool false, .float .f64 0]
                try replace hB7 := Blk.alloc hB7 (.cells #[.bool false, .float .f64 0] 53)
                replace hFr := hFr.alloc (.cells #[.bool false, .float .f64 0] 53)
                replace hFx := hFx.alloc (.cells #[.bool false, .float .f64 0] 53)
                first | generalize Wn.heap.size = n8 at hB8 hlt7 hge8 hgx8 ⊢ | generalize Wn.heap.size = n8 at hB8 hge8 hgx8 ⊢
                first | generalize World.alloc _ _ = Wn at hB7 hB8 hFr hFx ⊢ | generalize World.alloc _ _ = Wn at hB8 hFr hFx ⊢
                have hTn := HT.out _ hFr
                refine hK.out (At St) _ _ (fun _ h => h) (fun _ => by (assumption)) ?_
                clear hK K
                try simp only [Act.put, List.setIfInBounds_toArray, List.set_cons_zero, List.set_cons_succ]
                refine rt_one 10 rfl (by kernel_rfl) (fun K hK => ?_)
                go_simp
                refine (ref_cell13 A5 (k + 1) c5 _ (cmx (itx L k).2 j).2.1 Wn (Kd.C_below HCa.out (hFx.below (fun _ _ h => h))) HIG.out (by omega)).mono ?_
                rintro r Wm ⟨u, rfl, hu, huo, hF1⟩
                rw [HAC.out] at hu
                replace hFr := hFr.trans hF1
                replace hFx := hFx.trans hF1
                try replace hB7 := Blk.fr hB7 hF1 (fun h => h)
                try replace hB8 := Blk.fr hB8 hF1 (fun h => h)
                clear hF1
                generalize Wm = Wn at *
                have hTn := HT.out _ hFr
                go_wp2_with fail
                refine hK.out (At St) _ _ (fun _ h => h) (fun _ => by (assumption)) ?_
                clear hK K
                try simp only [Act.put, List.setIfInBounds_toArray, List.set_cons_zero, List.set_cons_succ]
                refine rt_one 19 rfl (by kernel_rfl) (fun K hK => ?_)
                go_simp
                refine (ref_do u (cmx (itx L k).2 j) Wn huo HCG.out).mono ?_
                rintro r Wm ⟨p, q, rfl, hp, hq, hpo, hqo, hF1⟩
                rw [hu] at hq
                replace hFr := hFr.trans hF1
                replace hFx := hFx.trans hF1
                try replace hB7 := Blk.fr hB7 hF1 (fun h => h)
                try replace hB8 := Blk.fr hB8 hF1 (fun h => h)
                clear hF1 hp hu
                generalize Wm = Wn at *
                have hTn := HT.out _ hFr
                go_wp2_with fail
                refine hK.out (At St) _ _ (fun _ h => h) (fun _ => by (assumption)) ?_
                clear hK K
                try simp only [Act.put, List.setIfInBounds_toArray, List.set_cons_zero, List.set_cons_succ]
                refine rt_free 20 (v := ?_) rfl (by kernel_rfl) (by kernel_rfl) (by kernel_rfl) (by kernel_rfl) (fun _ _ _ h => h) (by rfl) (fun _ => by first | assumption | exact HS0 _ rfl | exact HT.out _ (by repeat (first | exact Fr.refl _ _ | apply Fr.drew | refine Fr.alloc ?_ _))) ?_ ?_
                rotate_left 1
                · intro w; go_simp <;> with_reducible rfl
                try simp only [Act.put, List.setIfInBounds_toArray, List.set_cons_zero, List.set_cons_succ]
                refine rt_free 21 (v := ?_) rfl (by kernel_rfl) (by kernel_rfl) (by kernel_rfl) (by kernel_rfl) (fun _ _ _ h => h) (by rfl) (fun _ => by first | assumption | exact HS0 _ rfl | exact HT.out _ (by repeat (first | exact Fr.refl _ _ | apply Fr.drew | refine Fr.alloc ?_ _))) ?_ ?_
                rotate_left 1
                · intro w; go_simp <;> with_reducible rfl
                try simp only [Act.put, List.setIfInBounds_toArray, List.set_cons_zero, List.set_cons_succ]
                refine rt_free 22 (v := ?_) rfl (by kernel_rfl) (by kernel_rfl) (by kernel_rfl) (by kernel_rfl) (fun _ _ _ h => h) (by rfl) (fun _ => by first | assumption | exact HS0 _ rfl | exact HT.out _ (by repeat (first | exact Fr.refl _ _ | apply Fr.drew | refine Fr.alloc ?_ _))) ?_ ?_
                rotate_left 1
                · intro w; go_simp <;> with_reducible rfl
                try simp only [Act.put, List.setIfInBounds_toArray, List.set_cons_zero, List.set_cons_succ]
                refine rt_one 25 rfl (by kernel_rfl) (fun K hK => ?_)
                have b0 := Blk.cell hB7 0
                have b1 := Blk.cell hB7 1
                have bf := Blk.frozen hB7
                simp only [List.getElem?_toArray, List.getElem?_cons_zero, List.getElem?_cons_succ] at b0 b1
                go_simp
                have hne : n8 ≠ n7 := by omega
                replace hB8 := Blk.far2 hB8 hne (.bool p.1) (.float .f64 p.2)
                replace hFr := hFr.set2 (.inr hge7) (.bool p.1) (.float .f64 p.2)
                replace hFx := hFx.set2 (.inr hgx7) (.bool p.1) (.float .f64 p.2)
                clear b0 b1 bf hne
                generalize World.setCell _ _ _ = Wn at hB8 hFr hFx ⊢
                have hTn := HT.out _ hFr
                refine hK.out (At St) _ _ (fun _ h => h) (fun _ => by (assumption)) ?_
                clear hK K
                try simp only [Act.put, List.setIfInBounds_toArray, List.set_cons_zero, List.set_cons_succ]
                refine rt_one 26 rfl (by kernel_rfl) (fun K hK => ?_)
                have b0 := Blk.cell hB8 0
                have b1 := Blk.cell hB8 1
                have bf := Blk.frozen hB8
                simp only [List.getElem?_toArray, List.getElem?_cons_zero, List.getElem?_cons_succ] at b0 b1
                go_simp
                replace hB8 := Blk.set2 hB8 (u := .bool q.1) (v := .float .f64 q.2)
                replace hFx := hFx.set2 (.inr hgx8) (.bool q.1) (.float .f64 q.2)
                clear b0 b1 bf hFr
                generalize World.setCell _ _ _ = Wn at hB8 hFx ⊢
                refine hK.out (At St) _ _ (fun _ h => h) (late_abs (by kernel_rfl)) ?_
                clear hK K
                try simp only [Act.put, List.setIfInBounds_toArray, List.set_cons_zero, List.set_cons_succ]
                refine rt_done (by kernel_rfl) ?_
                all_goals exact cont2 _ _ _ _ _ n7 n8 q Wn hq hqo hB8 hFx
              exact AllNextt.nil
              all_goals exact cont2 _ _ _ _ _ n7 n8 q Wn hq hqo hB8 hFx
            refine AllNextt.cons rfl (fun K hK => ?_) ?_
            · skip
              go_simp
              have hge8 := hFr.size
              have hgx8 := hFx.size
              try have hlt7 := Blk.lt hB7
              have hB8 := Blk.new Wn 53 #[.bool false, .float .f64 0]
              try replace hB7 := Blk.alloc hB7 (.cells #[.bool false, .float .f64 0] 53)
              replace hFr := hFr.alloc (.cells #[.bool false, .float .f64 0] 53)
              replace hFx := hFx.alloc (.cells #[.bool false, .float .f64 0] 53)
              first | generalize Wn.heap.size = n8 at hB8 hlt7 hge8 hgx8 ⊢ | generalize Wn.heap.size = n8 at hB8 hge8 hgx8 ⊢
              first | generalize World.alloc _ _ = Wn at hB7 hB8 hFr hFx ⊢ | generalize World.alloc _ _ = Wn at hB8 hFr hFx ⊢
              have hTn := HT.out _ hFr
              refine hK.out (At St) _ _ (fun _ h => h) (fun _ => by (assumption)) ?_
              clear hK K
              try simp only [Act.put, List.setIfInBounds_toArray, List.set_cons_zero, List.set_cons_succ]
              refine rt_ready [10, 23] (by kernel_rfl) (by simp) ?_
              refine AllNextt.cons rfl (fun K hK => ?_) ?_
              · skip
                go_simp
                refine (ref_cell13 A5 (k + 1) c5 _ (cmx (itx L k).2 j).2.1 Wn (Kd.C_below HCa.out (hFx.below (fun _ _ h => h))) HIG.out (by omega)).mono ?_
                rintro r Wm ⟨u, rfl, hu, huo, hF1⟩
                rw [HAC.out] at hu
                replace hFr := hFr.trans hF1
                replace hFx := hFx.trans hF1
                try replace hB7 := Blk.fr hB7 hF1 (fun h => h)
                try replace hB8 := Blk.fr hB8 hF1 (fun h => h)
                clear hF1
                generalize Wm = Wn at *
                have hTn := HT.out _ hFr
                go_wp2_with fail
                refine hK.out (At St) _ _ (fun _ h => h) (fun _ => by (assumption)) ?_
                clear hK K
                try simp only [Act.put, List.setIfInBounds_toArray, List.set_cons_zero, List.set_cons_succ]
                refine rt_ready [19, 23] (by kernel_rfl) (by simp) ?_
                refine AllNextt.cons rfl (fun K hK => ?_) ?_
                · skip
                  go_simp
                  refine (ref_do u (cmx (itx L k).2 j) Wn huo HCG.out).mono ?_
                  rintro r Wm ⟨p, q, rfl, hp, hq, hpo, hqo, hF1⟩
                  rw [hu] at hq
                  replace hFr := hFr.trans hF1
                  replace hFx := hFx.trans hF1
                  try replace hB7 := Blk.fr hB7 hF1 (fun h => h)
                  try replace hB8 := Blk.fr hB8 hF1 (fun h => h)
                  clear hF1 hp hu
                  generalize Wm = Wn at *
                  have hTn := HT.out _ hFr
                  go_wp2_with fail
                  refine hK.out (At St) _ _ (fun _ h => h) (fun _ => by (assumption)) ?_
                  clear hK K
                  try simp only [Act.put, List.setIfInBounds_toArray, List.set_cons_zero, List.set_cons_succ]
                  refine rt_free 20 (v := ?_) rfl (by kernel_rfl) (by kernel_rfl) (by kernel_rfl) (by kernel_rfl) (fun _ _ _ h => h) (by rfl) (fun _ => by first | assumption | exact HS0 _ rfl | exact HT.out _ (by repeat (first | exact Fr.refl _ _ | apply Fr.drew | refine Fr.alloc ?_ _))) ?_ ?_
                  rotate_left 1
                  · intro w; go_simp <;> with_reducible rfl
                  try simp only [Act.put, List.setIfInBounds_toArray, List.set_cons_zero, List.set_cons_succ]
                  refine rt_free 21 (v := ?_) rfl (by kernel_rfl) (by kernel_rfl) (by kernel_rfl) (by kernel_rfl) (fun _ _ _ h => h) (by rfl) (fun _ => by first | assumption | exact HS0 _ rfl | exact HT.out _ (by repeat (first | exact Fr.refl _ _ | apply Fr.drew | refine Fr.alloc ?_ _))) ?_ ?_
                  rotate_left 1
                  · intro w; go_simp <;> with_reducible rfl
                  try simp only [Act.put, List.setIfInBounds_toArray, List.set_cons_zero, List.set_cons_succ]
                  refine rt_free 22 (v := ?_) rfl (by kernel_rfl) (by kernel_rfl) (by kernel_rfl) (by kernel_rfl) (fun _ _ _ h => h) (by rfl) (fun _ => by first | assumption | exact HS0 _ rfl | exact HT.out _ (by repeat (first | exact Fr.refl _ _ | apply Fr.drew | refine Fr.alloc ?_ _))) ?_ ?_
                  rotate_left 1
                  · intro w; go_simp <;> with_reducible rfl
                  try simp only [Act.put, List.setIfInBounds_toArray, List.set_cons_zero, List.set_cons_succ]
                  refine rt_one 23 rfl (by kernel_rfl) (fun K hK => ?_)
                  go_simp
                  have hge7 := hFr.size
                  have hgx7 := hFx.size
                  try have hlt8 := Blk.lt hB8
                  have hB7 := Blk.new Wn 53 #[.bool false, .float .f64 0]
                  try replace hB8 := Blk.alloc hB8 (.cells #[.bool false, .float .f64 0] 53)
                  replace hFr := hFr.alloc (.cells #[.bool false, .float .f64 0] 53)
                  replace hFx := hFx.alloc (.cells #[.bool false, .float .f64 0] 53)
                  first | generalize Wn.heap.size = n7 at hB7 hlt8 hge7 hgx7 ⊢ | generalize Wn.heap.size = n7 at hB7 hge7 hgx7 ⊢
                  first | generalize World.alloc _ _ = Wn at hB7 hB8 hFr hFx ⊢ | generalize World.alloc _ _ = Wn at hB7 hFr hFx ⊢
                  have hTn := HT.out _ hFr
                  refine hK.out (At St) _ _ (fun _ h => h) (fun _ => by (assumption)) ?_
                  clear hK K
                  try simp only [Act.put, List.setIfInBounds_toArray, List.set_cons_zero, List.set_cons_succ]
                  refine rt_one 25 rfl (by kernel_rfl) (fun K hK => ?_)
                  have b0 := Blk.cell hB7 0
                  have b1 := Blk.cell hB7 1
                  have bf := Blk.frozen hB7
                  simp only [List.getElem?_toArray, List.getElem?_cons_zero, List.getElem?_cons_succ] at b0 b1
                  go_simp
                  have hne : n8 ≠ n7 := by omega
                  replace hB8 := Blk.far2 hB8 hne (.bool p.1) (.float .f64 p.2)
                  replace hFr := hFr.set2 (.inr hge7) (.bool p.1) (.float .f64 p.2)
                  replace hFx := hFx.set2 (.inr hgx7) (.bool p.1) (.float .f64 p.2)
                  clear b0 b1 bf hne
                  generalize World.setCell _ _ _ = Wn at hB8 hFr hFx ⊢
                  have hTn := HT.out _ hFr
                  refine hK.out (At St) _ _ (fun _ h => h) (fun _ => by (assumption)) ?_
                  clear hK K
                  try simp only [Act.put, List.setIfInBounds_toArray, List.set_cons_zero, List.set_cons_succ]
                  refine rt_one 26 rfl (by kernel_rfl) (fun K hK => ?_)
                  have b0 := Blk.cell hB8 0
                  have b1 := Blk.cell hB8 1
                  have bf := Blk.frozen hB8
                  simp only [List.getElem?_toArray, List.getElem?_cons_zero, List.getElem?_cons_succ] at b0 b1
                  go_simp
                  replace hB8 := Blk.set2 hB8 (u := .bool q.1) (v := .float .f64 q.2)
                  replace hFx := hFx.set2 (.inr hgx8) (.bool q.1) (.float .f64 q.2)
                  clear b0 b1 bf hFr
                  generalize World.setCell _ _ _ = Wn at hB8 hFx ⊢
                  refine hK.out (At St) _ _ (fun _ h => h) (late_abs (by kernel_rfl)) ?_
                  clear hK K
                  try simp only [Act.put, List.setIfInBounds_toArray, List.set_cons_zero, List.set_cons_succ]
                  refine rt_done (by kernel_rfl) ?_
                  all_goals exact cont2 _ _ _ _ _ n7 n8 q Wn hq hqo hB8 hFx
                refine AllNextt.cons rfl (fun K hK => ?_) ?_
                · skip
                  go_simp
                  have hge7 := hFr.size
                  have hgx7 := hFx.size
                  try have hlt8 := Blk.lt hB8
                  have hB7 := Blk.new Wn 53 #[.bool false, .float .f64 0]
                  try replace hB8 := Blk.alloc hB8 (.cells #[.bool false, .float .f64 0] 53)
                  replace hFr := hFr.alloc (.cells #[.bool false, .float .f64 0] 53)
                  replace hFx := hFx.alloc (.cells #[.bool false, .float .f64 0] 53)
                  first | generalize Wn.heap.size = n7 at hB7 hlt8 hge7 hgx7 ⊢ | generalize Wn.heap.size = n7 at hB7 hge7 hgx7 ⊢
                  first | generalize World.alloc _ _ = Wn at hB7 hB8 hFr hFx ⊢ | generalize World.alloc _ _ = Wn at hB7 hFr hFx ⊢
                  have hTn := HT.out _ hFr
                  refine hK.out (At St) _ _ (fun _ h => h) (fun _ => by (assumption)) ?_
                  clear hK K
                  try simp only [Act.put, List.setIfInBounds_toArray, List.set_cons_zero, List.set_cons_succ]
                  refine rt_one 19 rfl (by kernel_rfl) (fun K hK => ?_)
                  go_simp
                  refine (ref_do u (cmx (itx L k).2 j) Wn huo HCG.out).mono ?_
                  rintro r Wm ⟨p, q, rfl, hp, hq, hpo, hqo, hF1⟩
                  rw [hu] at hq
                  replace hFr := hFr.trans hF1
                  replace hFx := hFx.trans hF1
                  try replace hB7 := Blk.fr hB7 hF1 (fun h => h)
                  try replace hB8 := Blk.fr hB8 hF1 (fun h => h)
                  clear hF1 hp hu
                  generalize Wm = Wn at *
                  have hTn := HT.out _ hFr
                  go_wp2_with fail
                  refine hK.out (At St) _ _ (fun _ h => h) (fun _ => by (assumption)) ?_
                  clear hK K
                  try simp only [Act.put, List.setIfInBounds_toArray, List.set_cons_zero, List.set_cons_succ]
                  refine rt_free 20 (v := ?_) rfl (by kernel_rfl) (by kernel_rfl) (by kernel_rfl) (by kernel_rfl) (fun _ _ _ h => h) (by rfl) (fun _ => by first | assumption | exact HS0 _ rfl | exact HT.out _ (by repeat (first | exact Fr.refl _ _ | apply Fr.drew | refine Fr.alloc ?_ _))) ?_ ?_
                  rotate_left 1
                  · intro w; go_simp <;> with_reducible rfl
                  try simp only [Act.put, List.setIfInBounds_toArray, List.set_cons_zero, List.set_cons_succ]
                  refine rt_free 21 (v := ?_) rfl (by kernel_rfl) (by kernel_rfl) (by kernel_rfl) (by kernel_rfl) (fun _ _ _ h => h) (by rfl) (fun _ => by first | assumption | exact HS0 _ rfl | exact HT.out _ (by repeat (first | exact Fr.refl _ _ | apply Fr.drew | refine Fr.alloc ?_ _))) ?_ ?_
                  rotate_left 1
                  · intro w; go_simp <;> with_reducible rfl
                  try simp only [Act.put, List.setIfInBounds_toArray, List.set_cons_zero, List.set_cons_succ]
                  refine rt_free 22 (v := ?_) rfl (by kernel_rfl) (by kernel_rfl) (by kernel_rfl) (by kernel_rfl) (fun _ _ _ h => h) (by rfl) (fun _ => by first | assumption | exact HS0 _ rfl | exact HT.out _ (by repeat (first | exact Fr.refl _ _ | apply Fr.drew | refine Fr.alloc ?_ _))) ?_ ?_
                  rotate_left 1
                  · intro w; go_simp <;> with_reducible rfl
                  try simp only [Act.put, List.setIfInBounds_toArray, List.set_cons_zero, List.set_cons_succ]
                  refine rt_one 25 rfl (by kernel_rfl) (fun K hK => ?_)
                  have b0 := Blk.cell hB7 0
                  have b1 := Blk.cell hB7 1
                  have bf := Blk.frozen hB7
                  simp only [List.getElem?_toArray, List.getElem?_cons_zero, List.getElem?_cons_succ] at b0 b1
                  go_simp
                  have hne : n8 ≠ n7 := by omega
                  replace hB8 := Blk.far2 hB8 hne (.bool p.1) (.float .f64 p.2)
                  replace hFr := hFr.set2 (.inr hge7) (.bool p.1) (.float .f64 p.2)
                  replace hFx := hFx.set2 (.inr hgx7) (.bool p.1) (.float .f64 p.2)
                  clear b0 b1 bf hne
                  generalize World.setCell _ _ _ = Wn at hB8 hFr hFx ⊢
                  have hTn := HT.out _ hFr
                  refine hK.out (At St) _ _ (fun _ h => h) (fun _ => by (assumption)) ?_
                  clear hK K
                  try simp only [Act.put, List.setIfInBounds_toArray, List.set_cons_zero, List.set_cons_succ]
                  refine rt_one 26 rfl (by kernel_rfl) (fun K hK => ?_)
                  have b0 := Blk.cell hB8 0
                  have b1 := Blk.cell hB8 1
                  have bf := Blk.frozen hB8
                  simp only [List.getElem?_toArray, List.getElem?_cons_zero, List.getElem?_cons_succ] at b0 b1
                  go_simp
                  replace hB8 := Blk.set2 hB8 (u := .bool q.1) (v := .float .f64 q.2)
                  replace hFx := hFx.set2 (.inr hgx8) (.bool q.1) (.float .f64 q.2)
                  clear b0 b1 bf hFr
                  generalize World.setCell _ _ _ = Wn at hB8 hFx ⊢
                  refine hK.out (At St) _ _ (fun _ h => h) (late_abs (by kernel_rfl)) ?_
                  clear hK K
                  try simp only [Act.put, List.setIfInBounds_toArray, List.set_cons_zero, List.set_cons_succ]
                  refine rt_done (by kernel_rfl) ?_
                  all_goals exact cont2 _ _ _ _ _ n7 n8 q Wn hq hqo hB8 hFx
                exact AllNextt.nil
                all_goals exact cont2 _ _ _ _ _ n7 n8 q Wn hq hqo hB8 hFx
              refine AllNextt.cons rfl (fun K hK => ?_) ?_
              · skip
                go_simp
                have hge7 := hFr.size
                have hgx7 := hFx.size
                try have hlt8 := Blk.lt hB8
                have hB7 := Blk.new Wn 53 #[.bool false, .float .f64 0]
                try replace hB8 := Blk.alloc hB8 (.cells #[.bool false, .float .f64 0] 53)
                replace hFr := hFr.alloc (.cells #[.bool false, .float .f64 0] 53)
                replace hFx := hFx.alloc (.cells #[.bool false, .float .f64 0] 53)
                first | generalize Wn.heap.size = n7 at hB7 hlt8 hge7 hgx7 ⊢ | generalize Wn.heap.size = n7 at hB7 hge7 hgx7 ⊢
                first | generalize World.alloc _ _ = Wn at hB7 hB8 hFr hFx ⊢ | generalize World.alloc _ _ = Wn at hB7 hFr hFx ⊢
                have hTn := HT.out _ hFr
                refine hK.out (At St) _ _ (fun _ h => h) (fun _ => by (assumption)) ?_
                clear hK K
                try simp only [Act.put, List.setIfInBounds_toArray, List.set_cons_zero, List.set_cons_succ]
                refine rt_one 10 rfl (by kernel_rfl) (fun K hK => ?_)
                go_simp
                refine (ref_cell13 A5 (k + 1) c5 _ (cmx (itx L k).2 j).2.1 Wn (Kd.C_below HCa.out (hFx.below (fun _ _ h => h))) HIG.out (by omega)).mono ?_
                rintro r Wm ⟨u, rfl, hu, huo, hF1⟩
                rw [HAC.out] at hu
                replace hFr := hFr.trans hF1
                replace hFx := hFx.trans hF1
                try replace hB7 := Blk.fr hB7 hF1 (fun h => h)
                try replace hB8 := Blk.fr hB8 hF1 (fun h => h)
                clear hF1
                generalize Wm = Wn at *
                have hTn := HT.out _ hFr
                go_wp2_with fail
                refine hK.out (At St) _ _ (fun _ h => h) (fun _ => by (assumption)) ?_
                clear hK K
                try simp only [Act.put, List.setIfInBounds_toArray, List.set_cons_zero, List.set_cons_succ]
                refine rt_one 19 rfl (by kernel_rfl) (fun K hK => ?_)
                go_simp
                refine (ref_do u (cmx (itx L k).2 j) Wn huo HCG.out).mono ?_
                rintro r Wm ⟨p, q, rfl, hp, hq, hpo, hqo, hF1⟩
                rw [hu] at hq
                replace hFr := hFr.trans hF1
                replace hFx := hFx.trans hF1
                try replace hB7 := Blk.fr hB7 hF1 (fun h => h)
                try replace hB8 := Blk.fr hB8 hF1 (fun h => h)
                clear hF1 hp hu
                generalize Wm = Wn at *
                have hTn := HT.out _ hFr
                go_wp2_with fail
                refine hK.out (At St) _ _ (fun _ h => h) (fun _ => by (assumption)) ?_
                clear hK K
                try simp only [Act.put, List.setIfInBounds_toArray, List.set_cons_zero, List.set_cons_succ]
                refine rt_free 20 (v := ?_) rfl (by kernel_rfl) (by kernel_rfl) (by kernel_rfl) (by kernel_rfl) (fun _ _ _ h => h) (by rfl) (fun _ => by first | assumption | exact HS0 _ rfl | exact HT.out _ (by repeat (first | exact Fr.refl _ _ | apply Fr.drew | refine Fr.alloc ?_ _))) ?_ ?_
                rotate_left 1
                · intro w; go_simp <;> with_reducible rfl
                try simp only [Act.put, List.setIfInBounds_toArray, List.set_cons_zero, List.set_cons_succ]
                refine rt_free 21 (v := ?_) rfl (by kernel_rfl) (by kernel_rfl) (by kernel_rfl) (by kernel_rfl) (fun _ _ _ h => h) (by rfl) (fun _ => by first | assumption | exact HS0 _ rfl | exact HT.out _ (by repeat (first | exact Fr.refl _ _ | apply Fr.drew | refine Fr.alloc ?_ _))) ?_ ?_
                rotate_left 1
                · intro w; go_simp <;> with_reducible rfl
                try simp only [Act.put, List.setIfInBounds_toArray, List.set_cons_zero, List.set_cons_succ]
                refine rt_free 22 (v := ?_) rfl (by kernel_rfl) (by kernel_rfl) (by kernel_rfl) (by kernel_rfl) (fun _ _ _ h => h) (by rfl) (fun _ => by first | assumption | exact HS0 _ rfl | exact HT.out _ (by repeat (first | exact Fr.refl _ _ | apply Fr.drew | refine Fr.alloc ?_ _))) ?_ ?_
                rotate_left 1
                · intro w; go_simp <;> with_reducible rfl
                try simp only [Act.put, List.setIfInBounds_toArray, List.set_cons_zero, List.set_cons_succ]
                refine rt_one 25 rfl (by kernel_rfl) (fun K hK => ?_)
                have b0 := Blk.cell hB7 0
                have b1 := Blk.cell hB7 1
                have bf := Blk.frozen hB7
                simp only [List.getElem?_toArray, List.getElem?_cons_zero, List.getElem?_cons_succ] at b0 b1
                go_simp
                have hne : n8 ≠ n7 := by omega
                replace hB8 := Blk.far2 hB8 hne (.bool p.1) (.float .f64 p.2)
                replace hFr := hFr.set2 (.inr hge7) (.bool p.1) (.float .f64 p.2)
                replace hFx := hFx.set2 (.inr hgx7) (.bool p.1) (.float .f64 p.2)
                clear b0 b1 bf hne
                generalize World.setCell _ _ _ = Wn at hB8 hFr hFx ⊢
                have hTn := HT.out _ hFr
                refine hK.out (At St) _ _ (fun _ h => h) (fun _ => by (assumption)) ?_
                clear hK K
                try simp only [Act.put, List.setIfInBounds_toArray, List.set_cons_zero, List.set_cons_succ]
                refine rt_one 26 rfl (by kernel_rfl) (fun K hK => ?_)
                have b0 := Blk.cell hB8 0
                have b1 := Blk.cell hB8 1
                have bf := Blk.frozen hB8
                simp only [List.getElem?_toArray, List.getElem?_cons_zero, List.getElem?_cons_succ] at b0 b1
                go_simp
                replace hB8 := Blk.set2 hB8 (u := .bool q.1) (v := .float .f64 q.2)
                replace hFx := hFx.set2 (.inr hgx8) (.bool q.1) (.float .f64 q.2)
                clear b0 b1 bf hFr
                generalize World.setCell _ _ _ = Wn at hB8 hFx ⊢
                refine hK.out (At St) _ _ (fun _ h => h) (late_abs (by kernel_rfl)) ?_
                clear hK K
                try simp only [Act.put, List.setIfInBounds_toArray, List.set_cons_zero, List.set_cons_succ]
                refine rt_done (by kernel_rfl) ?_
                all_goals exact cont2 _ _ _ _ _ n7 n8 q Wn hq hqo hB8 hFx
              exact AllNextt.nil
              all_goals exact cont2 _ _ _ _ _ n7 n8 q Wn hq hqo hB8 hFx
            exact AllNextt.nil
          obtain ⟨Wd, hWd⟩ : ∃ W, W = wr.drew := ⟨_, rfl⟩
          have HWD := Lib.hid hWd
          have hFr : Fr (fun _ => False) w Wd := by rw [hWd]; exact HGs.out.drew
          have hRo : resK.R 55 Wd w.heap.size (fun b => w.heap.size ≤ b) u3 T := by rw [hWd]; exact Kd.R_drew HRs.out
          obtain ⟨St, hSt⟩ : ∃ St : World → Prop, St = Fr (fun _ => False) w := ⟨_, rfl⟩
          have HT := Lib.hid (show ∀ w', Fr (fun _ => False) w w' → At St w' from fun w' h => by unfold At; rw [hSt]; exact h)
          have lift : ∀ (q : Addr) (u : Value), w.cell? q = some u → ∀ w', At St w' → w'.cell? q = some u := fun q u hq w' h => by replace h := h.out; rw [hSt] at h; exact h.cell hq (fun h => h)
          have l2 := lift _ _ H2w.out
          have hT0 := HT.out Wd hFr
          clear lift hSt hWd h2 hjl hCt hCj
          refine rt_start [15] (At St) 16 (by kernel_rfl) rfl ?_
          rw [← HWD.out]
          generalize Wd = Wn at hFr hT0 hRo ⊢
          refine rt_free 1 (v := ?_) rfl (by kernel_rfl) (by kernel_rfl) (by kernel_rfl) (by kernel_rfl) (fun _ _ _ h => h) (by rfl) (fun _ => by first | assumption | exact HS0 _ rfl | exact HT.out _ (by repeat (first | exact Fr.refl _ _ | apply Fr.drew | refine Fr.alloc ?_ _))) ?_ ?_
          rotate_left 1
          · intro w; go_simp <;> with_reducible rfl
          try simp only [Act.put, List.setIfInBounds_toArray, List.set_cons_zero, List.set_cons_succ]
          refine rt_free 2 (v := ?_) rfl (by kernel_rfl) (by kernel_rfl) (by kernel_rfl) (by kernel_rfl) (fun _ _ _ h => h) (by rfl) (fun _ => by first | assumption | exact HS0 _ rfl | exact HT.out _ (by repeat (first | exact Fr.refl _ _ | apply Fr.drew | refine Fr.alloc ?_ _))) ?_ ?_
          rotate_left 1
          · intro w; go_simp <;> with_reducible rfl
          try simp only [Act.put, List.setIfInBounds_toArray, List.set_cons_zero, List.set_cons_succ]
          refine rt_free 3 (v := ?_) rfl (by kernel_rfl) (by kernel_rfl) (by kernel_rfl) (by kernel_rfl) (fun _ _ _ h => h) (by rfl) (fun _ => by first | assumption | exact HS0 _ rfl | exact HT.out _ (by repeat (first | exact Fr.refl _ _ | apply Fr.drew | refine Fr.alloc ?_ _))) ?_ ?_
          rotate_left 1
          · intro w; go_simp <;> with_reducible rfl
          try simp only [Act.put, List.setIfInBounds_toArray, List.set_cons_zero, List.set_cons_succ]
          refine rt_free 5 (v := ?_) rfl (by kernel_rfl) (by kernel_rfl) (by kernel_rfl) (by kernel_rfl) (fun _ _ _ h => h) (by rfl) (fun _ => by first | assumption | exact HS0 _ rfl | exact HT.out _ (by repeat (first | exact Fr.refl _ _ | apply Fr.drew | refine Fr.alloc ?_ _))) ?_ ?_
          rotate_left 1
          · intro w; go_simp <;> with_reducible rfl
          try simp only [Act.put, List.setIfInBounds_toArray, List.set_cons_zero, List.set_cons_succ]
          refine rt_free 6 (v := ?_) rfl (by kernel_rfl) (by kernel_rfl) (by kernel_rfl) (by kernel_rfl) (fun _ _ _ h => h) (by rfl) (fun _ => by first | assumption | exact HS0 _ rfl | exact HT.out _ (by repeat (first | exact Fr.refl _ _ | apply Fr.drew | refine Fr.alloc ?_ _))) ?_ ?_
          rotate_left 1
          · intro w; go_simp <;> with_reducible rfl
          try simp only [Act.put, List.setIfInBounds_toArray, List.set_cons_zero, List.set_cons_succ]
          refine rt_free 7 (v := ?_) rfl (by kernel_rfl) (by kernel_rfl) (by kernel_rfl) (by kernel_rfl) (fun _ _ _ h => h) (by rfl) (fun _ => by first | assumption | exact HS0 _ rfl | exact HT.out _ (by repeat (first | exact Fr.refl _ _ | apply Fr.drew | refine Fr.alloc ?_ _))) ?_ ?_
          rotate_left 1
          · intro w; go_simp <;> with_reducible rfl
          try simp only [Act.put, List.setIfInBounds_toArray, List.set_cons_zero, List.set_cons_succ]
          refine rt_free 8 (v := ?_) rfl (by kernel_rfl) (by kernel_rfl) (by kernel_rfl) (by kernel_rfl) (fun _ _ _ h => h) (by rfl) (fun _ => by first | assumption | exact HS0 _ rfl | exact HT.out _ (by repeat (first | exact Fr.refl _ _ | apply Fr.drew | refine Fr.alloc ?_ _))) ?_ ?_
          rotate_left 1
          · intro w; go_simp <;> with_reducible rfl
          try simp only [Act.put, List.setIfInBounds_toArray, List.set_cons_zero, List.set_cons_succ]
          refine rt_take 9 (v := ?_) rfl (by kernel_rfl) (by kernel_rfl) (by kernel_rfl) (by kernel_rfl) (fun _ _ _ h => h) (by rfl) (by first | assumption | exact HS0 _ rfl | exact HT.out _ (by repeat (first | exact Fr.refl _ _ | apply Fr.drew | refine Fr.alloc ?_ _))) ?_ ?_
          rotate_left 1
          · intro w hSw; go_simp <;> with_reducible rfl
          try simp only [Act.put, List.setIfInBounds_toArray, List.set_cons_zero, List.set_cons_succ]
          refine rt_free 10 (v := ?_) rfl (by kernel_rfl) (by kernel_rfl) (by kernel_rfl) (by kernel_rfl) (fun _ _ _ h => h) (by rfl) (fun _ => by first | assumption | exact HS0 _ rfl | exact HT.out _ (by repeat (first | exact Fr.refl _ _ | apply Fr.drew | refine Fr.alloc ?_ _))) ?_ ?_
          rotate_left 1
          · intro w; go_simp <;> with_reducible rfl
          try simp only [Act.put, List.setIfInBounds_toArray, List.set_cons_zero, List.set_cons_succ]
          refine rt_free 11 (v := ?_) rfl (by kernel_rfl) (by kernel_rfl) (by kernel_rfl) (by kernel_rfl) (fun _ _ _ h => h) (by rfl) (fun _ => by first | assumption | exact HS0 _ rfl | exact HT.out _ (by repeat (first | exact Fr.refl _ _ | apply Fr.drew | refine Fr.alloc ?_ _))) ?_ ?_
          rotate_left 1
          · intro w; go_simp <;> with_reducible rfl
          try simp only [Act.put, List.setIfInBounds_toArray, List.set_cons_zero, List.set_cons_succ]
          refine rt_free 12 (v := ?_) rfl (by kernel_rfl) (by kernel_rfl) (by kernel_rfl) (by kernel_rfl) (fun _ _ _ h => h) (by rfl) (fun _ => by first | assumption | exact HS0 _ rfl | exact HT.out _ (by repeat (first | exact Fr.refl _ _ | apply Fr.drew | refine Fr.alloc ?_ _))) ?_ ?_
          rotate_left 1
          · intro w; go_simp <;> with_reducible rfl
          try simp only [Act.put, List.setIfInBounds_toArray, List.set_cons_zero, List.set_cons_succ]
          refine rt_ready [0, 13] (by kernel_rfl) (by simp) ?_
          refine AllNextt.cons rfl (fun K hK => ?_) ?_
          · skip
            go_simp
            have hRa := Kd.R_mono (Kd.R_lower (R_empty (itF w) 30 Wn) hFr.size) (ok' := fun b => w.heap.size ≤ b) (fun b hb => Nat.le_trans hFr.size hb)
            try have hd0 := Blk.lt hB13
            try replace hB13 := Blk.alloc hB13 (.cells #[] 30)
            replace hFr := hFr.alloc (.cells #[] 30)
            replace hRo := Kd.R_alloc hRo (.cells #[] 30)
            first | generalize Wn.heap.size = g26 at hRa hd0 ⊢ | generalize Wn.heap.size = g26 at hRa ⊢
            first | generalize World.alloc _ _ = Wn at hRa hB13 hFr hRo ⊢ | generalize World.alloc _ _ = Wn at hRa hFr hRo ⊢
            have hTn := HT.out _ hFr
            refine hK.out (At St) _ _ (fun _ h => h) (fun _ => by (assumption)) ?_
            clear hK K
            try simp only [Act.put, List.setIfInBounds_toArray, List.set_cons_zero, List.set_cons_succ]
            refine rt_ready [4, 13] (by kernel_rfl) (by simp) ?_
            refine AllNextt.cons rfl (fun K hK => ?_) ?_
            · skip
              obtain ⟨A4, c4, W4, hr4, hRn, hFn, hgn⟩ := app_items (w := w) (c := c) 22 22 Try.underlying22 info_it2 hRa (itF_of (hFr.below (fun _ _ h => h)) HCt.out) hFr (by simp only [List.length_nil]; omega)
              rw [List.length_nil, Nat.zero_add, List.nil_append] at hRn
              rw [List.length_nil, Nat.zero_add] at hr4
              refine step_builtin2 rfl rfl rfl rfl (bi_append hr4) ?_
              try replace hB13 := Blk.fr hB13 (Fr.of_grown hgn) (fun e => by simp [Value.ownBlock] at e; omega)
              replace hRo := Kd.R_over' hRo (Kd.R_typed hRa) (by decide) hgn
              clear hRa hr4
              have hRa := hRn
              clear hRn hFr
              have hFr := hFn
              clear hFn hgn
              have hTn := HT.out _ hFr
              first | generalize W4 = Wn at hFr hRa hRo hTn hB13 ⊢ | generalize W4 = Wn at hFr hRa hRo hTn ⊢
              refine hK.out (At St) _ _ (fun _ h => h) (fun _ => by (assumption)) ?_
              clear hK K
              try simp only [Act.put, List.setIfInBounds_toArray, List.set_cons_zero, List.set_cons_succ]
              refine rt_one 13 rfl (by kernel_rfl) (fun K hK => ?_)
              go_simp
              have hB13 := Blk.new Wn 30 #[.int .i64 0, .int .i64 0, .slice Ab j cb]
              try have hl13 := Kd.R_lt hRa g26 rfl
              try replace hRa := Kd.R_alloc hRa (.cells #[.int .i64 0, .int .i64 0, .slice Ab j cb] 30)
              replace hFr := hFr.alloc (.cells #[.int .i64 0, .int .i64 0, .slice Ab j cb] 30)
              replace hRo := Kd.R_alloc hRo (.cells #[.int .i64 0, .int .i64 0, .slice Ab j cb] 30)
              first | generalize Wn.heap.size = n13 at hB13 hl13 ⊢ | generalize Wn.heap.size = n13 at hB13 ⊢
              first | generalize World.alloc _ _ = Wn at hRa hB13 hFr hRo ⊢ | generalize World.alloc _ _ = Wn at hB13 hFr hRo ⊢
              have hTn := HT.out _ hFr
              refine hK.out (At St) _ _ (fun _ h => h) (fun _ => by (assumption)) ?_
              clear hK K
              try simp only [Act.put, List.setIfInBounds_toArray, List.set_cons_zero, List.set_cons_succ]
              refine rt_one 14 rfl (by kernel_rfl) (fun K hK => ?_)
              obtain ⟨A5, c5, W5, hr5, hRn, hFn, hgn⟩ := app_items (w := w) (c := 1) 22 22 Try.underlying22 info_it2 hRa (item_blk_C (a := ((0, 0), (itx L k).2.take j)) (by rw [HJL.out]; exact hB13) (by rw [HJL.out]; exact hjc) (by rw [HJL.out]; exact HCj.out)) hFr (by rw [List.length_take]; omega)
              rw [show (L.take k).length + 1 = k + 1 from by rw [List.length_take, HLn.out]; omega] at hRn hr5
              refine step_builtin2 rfl rfl rfl rfl (bi_append hr5) ?_
              replace hRo := Kd.R_over' hRo (Kd.R_typed hRa) (by decide) hgn
              have hTn := HT.out _ hFn
              refine hK.out (At St) _ _ (fun _ h => h) (fun _ => by (assumption)) ?_
              clear hK K
              try simp only [Act.put, List.setIfInBounds_toArray, List.set_cons_zero, List.set_cons_succ]
              refine rt_one 15 rfl (by kernel_rfl) (fun K hK => ?_)
              go_simp
              refine hK.out (At St) _ _ (fun _ h => h) (late_abs (by kernel_rfl)) ?_
              clear hK K
              try simp only [Act.put, List.setIfInBounds_toArray, List.set_cons_zero, List.set_cons_succ]
              refine rt_done (by kernel_rfl) ?_
              all_goals exact cont _ _ _ A5 c5 W5 (itF_C (hFn.below (fun _ _ h => h)) (Kd.R_reads' hRn).2.2) hFn hRo
            refine AllNextt.cons rfl (fun K hK => ?_) ?_
            · skip
              go_simp
              have hB13 := Blk.new Wn 30 #[.int .i64 0, .int .i64 0, .slice Ab j cb]
              try have hl13 := Kd.R_lt hRa g26 rfl
              try replace hRa := Kd.R_alloc hRa (.cells #[.int .i64 0, .int .i64 0, .slice Ab j cb] 30)
              replace hFr := hFr.alloc (.cells #[.int .i64 0, .int .i64 0, .slice Ab j cb] 30)
              replace hRo := Kd.R_alloc hRo (.cells #[.int .i64 0, .int .i64 0, .slice Ab j cb] 30)
              first | generalize Wn.heap.size = n13 at hB13 hl13 ⊢ | generalize Wn.heap.size = n13 at hB13 ⊢
              first | generalize World.alloc _ _ = Wn at hRa hB13 hFr hRo ⊢ | generalize World.alloc _ _ = Wn at hB13 hFr hRo ⊢
              have hTn := HT.out _ hFr
              refine hK.out (At St) _ _ (fun _ h => h) (fun _ => by (assumption)) ?_
              clear hK K
              try simp only [Act.put, List.setIfInBounds_toArray, List.set_cons_zero, List.set_cons_succ]
              refine rt_one 4 rfl (by kernel_rfl) (fun K hK => ?_)
              obtain ⟨A4, c4, W4, hr4, hRn, hFn, hgn⟩ := app_items (w := w) (c := c) 22 22 Try.underlying22 info_it2 hRa (itF_of (hFr.below (fun _ _ h => h)) HCt.out) hFr (by simp only [List.length_nil]; omega)
              rw [List.length_nil, Nat.zero_add, List.nil_append] at hRn
              rw [List.length_nil, Nat.zero_add] at hr4
              refine step_builtin2 rfl rfl rfl rfl (bi_append hr4) ?_
              try replace hB13 := Blk.fr hB13 (Fr.of_grown hgn) (fun e => by simp [Value.ownBlock] at e; omega)
              replace hRo := Kd.R_over' hRo (Kd.R_typed hRa) (by decide) hgn
              clear hRa hr4
              have hRa := hRn
              clear hRn hFr
              have hFr := hFn
              clear hFn hgn
              have hTn := HT.out _ hFr
              first | generalize W4 = Wn at hFr hRa hRo hTn hB13 ⊢ | generalize W4 = Wn at hFr hRa hRo hTn ⊢
              refine hK.out (At St) _ _ (fun _ h => h) (fun _ => by (assumption)) ?_
              clear hK K
              try simp only [Act.put, List.setIfInBounds_toArray, List.set_cons_zero, List.set_cons_succ]
              refine rt_one 14 rfl (by kernel_rfl) (fun K hK => ?_)
              obtain ⟨A5, c5, W5, hr5, hRn, hFn, hgn⟩ := app_items (w := w) (c := 1) 22 22 Try.underlying22 info_it2 hRa (item_blk_C (a := ((0, 0), (itx L k).2.take j)) (by rw [HJL.out]; exact hB13) (by rw [HJL.out]; exact hjc) (by rw [HJL.out]; exact HCj.out)) hFr (by rw [List.length_take]; omega)
              rw [show (L.take k).length + 1 = k + 1 from by rw [List.length_take, HLn.out]; omega] at hRn hr5
              refine step_builtin2 rfl rfl rfl rfl (bi_append hr5) ?_
              replace hRo := Kd.R_over' hRo (Kd.R_typed hRa) (by decide) hgn
              have hTn := HT.out _ hFn
              refine hK.out (At St) _ _ (fun _ h => h) (fun _ => by (assumption)) ?_
              clear hK K
              try simp only [Act.put, List.setIfInBounds_toArray, List.set_cons_zero, List.set_cons_succ]
              refine rt_one 15 rfl (by kernel_rfl) (fun K hK => ?_)
              go_simp
              refine hK.out (At St) _ _ (fun _ h => h) (late_abs (by kernel_rfl)) ?_
              clear hK K
              try simp only [Act.put, List.setIfInBounds_toArray, List.set_cons_zero, List.set_cons_succ]
              refine rt_done (by kernel_rfl) ?_
              all_goals exact cont _ _ _ A5 c5 W5 (itF_C (hFn.below (fun _ _ h => h)) (Kd.R_reads' hRn).2.2) hFn hRo
            exact AllNextt.nil
            all_goals exact cont _ _ _ A5 c5 W5 (itF_C (hFn.below (fun _ _ h => h)) (Kd.R_reads' hRn).2.2) hFn hRo
          refine AllNextt.cons rfl (fun K hK => ?_) ?_
          · skip
            go_simp
            have hB13 := Blk.new Wn 30 #[.int .i64 0, .int .i64 0, .slice Ab j cb]
            try have hl13 := Kd.R_lt hRa g26 rfl
            try replace hRa := Kd.R_alloc hRa (.cells #[.int .i64 0, .int .i64 0, .slice Ab j cb] 30)
            replace hFr := hFr.alloc (.cells #[.int .i64 0, .int .i64 0, .slice Ab j cb] 30)
            replace hRo := Kd.R_alloc hRo (.cells #[.int .i64 0, .int .i64 0, .slice Ab j cb] 30)
            first | generalize Wn.heap.size = n13 at hB13 hl13 ⊢ | generalize Wn.heap.size = n13 at hB13 ⊢
            first | generalize World.alloc _ _ = Wn at hRa hB13 hFr hRo ⊢ | generalize World.alloc _ _ = Wn at hB13 hFr hRo ⊢
            have hTn := HT.out _ hFr
            refine hK.out (At St) _ _ (fun _ h => h) (fun _ => by (assumption)) ?_
            clear hK K
            try simp only [Act.put, List.setIfInBounds_toArray, List.set_cons_zero, List.set_cons_succ]
            refine rt_one 0 rfl (by kernel_rfl) (fun K hK => ?_)
            go_simp
            have hRa := Kd.R_mono (Kd.R_lower (R_empty (itF w) 30 Wn) hFr.size) (ok' := fun b => w.heap.size ≤ b) (fun b hb => Nat.le_trans hFr.size hb)
            try have hd0 := Blk.lt hB13
            try replace hB13 := Blk.alloc hB13 (.cells #[] 30)
            replace hFr := hFr.alloc (.cells #[] 30)
            replace hRo := Kd.R_alloc hRo (.cells #[] 30)
            first | generalize Wn.heap.size = g26 at hRa hd0 ⊢ | generalize Wn.heap.size = g26 at hRa ⊢
            first | generalize World.alloc _ _ = Wn at hRa hB13 hFr hRo ⊢ | generalize World.alloc _ _ = Wn at hRa hFr hRo ⊢
            have hTn := HT.out _ hFr
            refine hK.out (At St) _ _ (fun _ h => h) (fun _ => by (assumption)) ?_
            clear hK K
            try simp only [Act.put, List.setIfInBounds_toArray, List.set_cons_zero, List.set_cons_succ]
            refine rt_one 4 rfl (by kernel_rfl) (fun K hK => ?_)
            obtain ⟨A4, c4, W4, hr4, hRn, hFn, hgn⟩ := app_items (w := w) (c := c) 22 22 Try.underlying22 info_it2 hRa (itF_of (hFr.below (fun _ _ h => h)) HCt.out) hFr (by simp only [List.length_nil]; omega)
            rw [List.length_nil, Nat.zero_add, List.nil_append] at hRn
            rw [List.length_nil, Nat.zero_add] at hr4
            refine step_builtin2 rfl rfl rfl rfl (bi_append hr4) ?_
            try replace hB13 := Blk.fr hB13 (Fr.of_grown hgn) (fun e => by simp [Value.ownBlock] at e; omega)
            replace hRo := Kd.R_over' hRo (Kd.R_typed hRa) (by decide) hgn
            clear hRa hr4
            have hRa := hRn
            clear hRn hFr
            have hFr := hFn
            clear hFn hgn
            have hTn := HT.out _ hFr
            first | generalize W4 = Wn at hFr hRa hRo hTn hB13 ⊢ | generalize W4 = Wn at hFr hRa hRo hTn ⊢
            refine hK.out (At St) _ _ (fun _ h => h) (fun _ => by (assumption)) ?_
            clear hK K
            try simp only [Act.put, List.setIfInBounds_toArray, List.set_cons_zero, List.set_cons_succ]
            refine rt_one 14 rfl (by kernel_rfl) (fun K hK => ?_)
            obtain ⟨A5, c5, W5, hr5, hRn, hFn, hgn⟩ := app_items (w := w) (c := 1) 22 22 Try.underlying22 info_it2 hRa (item_blk_C (a := ((0, 0), (itx L k).2.take j)) (by rw [HJL.out]; exact hB13) (by rw [HJL.out]; exact hjc) (by rw [HJL.out]; exact HCj.out)) hFr (by rw [List.length_take]; omega)
            rw [show (L.take k).length + 1 = k + 1 from by rw [List.length_take, HLn.out]; omega] at hRn hr5
            refine step_builtin2 rfl rfl rfl rfl (bi_append hr5) ?_
            replace hRo := Kd.R_over' hRo (Kd.R_typed hRa) (by decide) hgn
            have hTn := HT.out _ hFn
            refine hK.out (At St) _ _ (fun _ h => h) (fun _ => by (assumption)) ?_
            clear hK K
            try simp only [Act.put, List.setIfInBounds_toArray, List.set_cons_zero, List.set_cons_succ]
            refine rt_one 15 rfl (by kernel_rfl) (fun K hK => ?_)
            go_simp
            refine hK.out (At St) _ _ (fun _ h => h) (late_abs (by kernel_rfl)) ?_
            clear hK K
            try simp only [Act.put, List.setIfInBounds_toArray, List.set_cons_zero, List.set_cons_succ]
            refine rt_done (by kernel_rfl) ?_
            all_goals exact cont _ _ _ A5 c5 W5 (itF_C (hFn.below (fun _ _ h => h)) (Kd.R_reads' hRn).2.2) hFn hRo
          exact AllNextt.nil
        · obtain rfl : j = (itx L k).2.length := by omega
          have tjj : decide ((itx L k).2.length < (itx L k).2.length) = false := decide_eq_false (by omega)
          go_wp2_with fail
          go_roundw
          case rel =>
            refine ⟨k + 1, T, by omega, by go_num, HRs.out, ?_, HTOs.out, by have h1 := HTLs.out; have h2 := HI8.out; omega, HGs.out⟩
            rw [HTTs.out, HRS.out]
            rfl
          case measure => simp [intOf]; omega
    · obtain rfl : n = k := by omega
      have tnn : decide (n < n) = false := decide_eq_false (by omega)
      have hl : L.take n = L := by rw [← HLn.out]; exact List.take_length
      go_wp2_with fail
      go_ret
      exact ⟨_, T, rfl, HR.out, by rw [← hl]; exact HTT.out, HTO.out, HG.out⟩
end Go.Proofs.Ytepfhcimmbkilaa
