/- Texts of VaultApplies, merged (27 of 33): FoldO, Works14, Ref13C. -/
import Derived.Test.YtepfhcimmbkilaaGVaultApplies16
import Derived.Test.YtepfhcimmbkilaaGVaultApplies18
set_option linter.unusedVariables false
set_option linter.unusedSimpArgs false
/- What just some commands make of a key: cell.Fold, fold.Only. -/
namespace Go.Proofs.Ytepfhcimmbkilaa
open Go.RowKit
open Go.Proofs.YtepfhcimmbkilaaW.PrintWords

noncomputable def foldC (L : List Cmd) : CellD := L.foldl (fun c x => (doC c x).1) (false, 0)
theorem foldC_snoc (L : List Cmd) (x : Cmd) : foldC (L ++ [x]) = (doC (foldC L) x).1 := by unfold foldC; rw [List.foldl_append]; rfl
theorem foldC_canon : ∀ (L : List Cmd) (c : CellD), (∀ x ∈ L, CmdGood x) → CellC c → CellC (L.foldl (fun c x => (doC c x).1) c)
  | [], c, _, hc => hc
  | x :: L, c, hL, hc => foldC_canon L _ (fun y hy => hL y (List.mem_cons_of_mem _ hy)) (doC_canon hc (hL x List.mem_cons_self)).1
theorem foldC_ok {L : List Cmd} (hL : ∀ x ∈ L, CmdGood x) : CellC (foldC L) := foldC_canon L _ hL ⟨cell0_ok, rfl⟩
theorem take_cmx {L : List Cmd} {k : Nat} (h : k < L.length) : L.take (k + 1) = L.take k ++ [cmx L k] := by rw [List.take_succ_eq_append_getElem h, cmx_eq h]
def selP (key : ByteArray) (W : List Wr) (id : Int × Int) (L : List Cmd) (i : Nat) : Prop := (cmx L i).2.1 = key ∧ ((id, (i : Int)) : Wr) ∈ W
noncomputable def selN (key : ByteArray) (W : List Wr) (id : Int × Int) (L : List Cmd) : Nat → List Cmd
  | 0 => []
  | k + 1 => selN key W id L k ++ (bif cdec (selP key W id L k) then [cmx L k] else [])
noncomputable def selI (key : ByteArray) (W : List Wr) (L : List Item) : Nat → List Cmd
  | 0 => []
  | k + 1 => selI key W L k ++ (if errBat (itx L k).2 = 0 then selN key W (itx L k).1 (itx L k).2 (itx L k).2.length else [])
theorem selN_good {key : ByteArray} {W : List Wr} {id : Int × Int} {L : List Cmd} (hL : ∀ x ∈ L, CmdGood x) : ∀ k, k ≤ L.length → (∀ x ∈ selN key W id L k, CmdGood x) ∧ (selN key W id L k).length ≤ k
  | 0, _ => ⟨fun x hx => absurd hx List.not_mem_nil, Nat.le_refl _⟩
  | k + 1, hk => by
    obtain ⟨h1, h2⟩ := selN_good (key := key) (W := W) (id := id) hL k (by omega)
    unfold selN
    cases cdec (selP key W id L k)
    · rw [cond_false, List.append_nil]; exact ⟨h1, by omega⟩
    · rw [cond_true]
      refine ⟨fun x hx => ?_, by rw [List.length_append, List.length_singleton]; omega⟩
      rcases List.mem_append.1 hx with hx | hx
      · exact h1 x hx
      · rw [List.mem_singleton.1 hx]; exact hL _ (cmx_mem (by omega))
theorem selI_good {key : ByteArray} {W : List Wr} {L : List Item} (hL : ItemsGood L) : ∀ k, k ≤ L.length → (∀ x ∈ selI key W L k, CmdGood x) ∧ (selI key W L k).length ≤ 8 * k
  | 0, _ => ⟨fun x hx => absurd hx List.not_mem_nil, Nat.le_refl _⟩
  | k + 1, hk => by
    obtain ⟨h1, h2⟩ := selI_good (key := key) (W := W) hL k (by omega)
    unfold selI
    split
    · rename_i he
      have hl := errBat_len he
      obtain ⟨h3, h4⟩ := selN_good (key := key) (W := W) (id := (itx L k).1) (hL _ (itx_mem (i := k) (by omega))) _ (Nat.le_refl _)
      refine ⟨fun x hx => (List.mem_append.1 hx).elim (h1 x) (h3 x), by rw [List.length_append]; omega⟩
    · rw [List.append_nil]; exact ⟨h1, by omega⟩
end Go.Proofs.Ytepfhcimmbkilaa
/- Layer 14's works; the law FoldPrefix. -/
namespace Go.Proofs.Ytepfhcimmbkilaa
open Go.RowKit
open Go.Proofs.YtepfhcimmbkilaaW.PrintWords

abbrev kA : ByteArray := ⟨#[97]⟩
abbrev one64 : Nat := 4607182418800017408
abbrev two64 : Nat := 4611686018427387904
abbrev c14a : Cmd := (2, kA, one64)
abbrev c14b : Cmd := (4, kA, one64)
abbrev B14 : List Cmd := [c14a, c14b]
abbrev L14 : List Item := [((1, 1), B14)]
theorem keyA : keyOk kA := by
  refine ⟨fun i h => ?_, by decide, by decide⟩
  have : i = 0 := by have : kA.size = 1 := rfl; omega
  subst this
  exact show charK 97 from .inl ⟨by decide, by decide⟩
theorem ok14a : cmdOk c14a := ⟨.inr (.inl rfl), keyA, fun h => by rcases h with h | h <;> cases h⟩
theorem ok14b : cmdOk c14b := ⟨.inr (.inr (.inr rfl)), keyA, fun h => by rcases h with h | h <;> cases h⟩
theorem bat14 : errBat B14 = 0 := errBat_ok (by decide) fun i hi => by
  have : i = 0 ∨ i = 1 := by have : B14.length = 2 := rfl; omega
  rcases this with rfl | rfl
  · exact ok14a
  · exact ok14b
theorem good14 : ItemsGood L14 := fun it hit x hx => by
  rw [List.mem_singleton.1 hit] at hx
  rcases List.mem_cons.1 hx with rfl | hx
  · exact ⟨by decide, by decide⟩
  · rw [List.mem_singleton.1 hx]; exact ⟨by decide, by decide⟩
theorem run14 : runI L14 = ([((1, 1), 0, c14a), ((1, 1), 1, c14b)], toldN [] (1, 1) B14 2) := by
  show stepI ([], []) ((1, 1), B14) = _
  unfold stepI
  rw [if_pos bat14]
  rfl
theorem sum14 : sumC (canonP one64) one64 = two64 := by decide +kernel
theorem can14 : canonP one64 = one64 := by decide +kernel
theorem cell14 : cellOf (runI L14).1 kA = (true, two64) := by
  rw [run14]
  show cellStep kA (cellStep kA (false, 0) ((1, 1), 0, c14a)) ((1, 1), 1, c14b) = _
  unfold cellStep
  rw [cdec_true rfl]
  show (doC (doC (false, 0) c14a).1 c14b).1 = _
  rw [doC_put ok14a rfl, doC_add ok14b rfl]
  exact congrArg (Prod.mk true) sum14
theorem log14 : logOf (runI L14).1 kA = [((1, 1), 0), ((1, 1), 1)] := by
  rw [run14]
  have h1 : logOf ([] ++ [((1, 1), 0, c14a)]) kA = logOf [] kA ++ [((1, 1), 0)] := logOf_yes ⟨rfl, ok14a, by decide⟩
  have h2 : logOf (([] ++ [((1, 1), 0, c14a)]) ++ [((1, 1), 1, c14b)]) kA = logOf ([] ++ [((1, 1), 0, c14a)]) kA ++ [((1, 1), 1)] := logOf_yes ⟨rfl, ok14b, by decide⟩
  rw [h1] at h2
  exact h2
theorem only14 : foldC (selI kA [((1, 1), 0)] L14 L14.length) = (true, one64) := by
  have h1 : selN kA [((1, 1), 0)] (1, 1) B14 2 = [c14a] := by
    show ([] ++ (bif cdec (selP kA [((1, 1), 0)] (1, 1) B14 0) then [c14a] else [])) ++ (bif cdec (selP kA [((1, 1), 0)] (1, 1) B14 1) then [c14b] else []) = _
    rw [cdec_true (show selP kA [((1, 1), 0)] (1, 1) B14 0 from ⟨rfl, by decide⟩), cdec_false (show ¬ selP kA [((1, 1), 0)] (1, 1) B14 1 from fun h => absurd h.2 (by decide))]
    rfl
  show foldC ([] ++ (if errBat B14 = 0 then selN kA [((1, 1), 0)] (1, 1) B14 2 else [])) = _
  rw [if_pos bat14, h1]
  show (doC (false, 0) c14a).1 = _
  rw [doC_put ok14a rfl]
  exact congrArg (Prod.mk true) can14
theorem feq_two (w : World) : (binOp .eql 35 (.float .f64 two64) (.float .f64 two64)).run Try.prog w = .ok (.bool true) w := by kernel_rfl
theorem feq_one (w : World) : (binOp .eql 35 (.float .f64 one64) (.float .f64 one64)).run Try.prog w = .ok (.bool true) w := by kernel_rfl
theorem field_two (w : World) : (Instr.field 53 (cellV (true, two64)) 1).run Try.prog w = .ok (.float .f64 two64) w := by kernel_rfl
theorem field_one (w : World) : (Instr.field 53 (cellV (true, one64)) 1).run Try.prog w = .ok (.float .f64 one64) w := by kernel_rfl
end Go.Proofs.Ytepfhcimmbkilaa
/- Results: that they are the same is told. -/
namespace Go.Proofs.Ytepfhcimmbkilaa
open Go.RowKit
open Go.Proofs.YtepfhcimmbkilaaW.PrintWords

def rsx (L : List Rs) (i : Nat) : Rs := L.getD i ((0, 0), 0, (false, 0))
theorem rsx_eq {L : List Rs} {i : Nat} (h : i < L.length) : rsx L i = L[i] := by unfold rsx; rw [List.getD_eq_getElem?_getD, List.getElem?_eq_getElem h]; rfl
theorem rsx_mem {L : List Rs} {i : Nat} (h : i < L.length) : rsx L i ∈ L := by rw [rsx_eq h]; exact List.getElem_mem h
theorem ress_at {w : World} {A : Option Addr} {n : Nat} {L : List Rs} (h : resK.C w A n L) {i : Nat} (hi : i < n) :
    ∃ b off, A = some ⟨b, off, none⟩ ∧ w.cell? ⟨b, off + i * 5, none⟩ = some (.int .i64 (rsx L i).1.1) ∧ w.cell? ⟨b, off + i * 5 + 1, none⟩ = some (.int .i64 (rsx L i).1.2) ∧ w.cell? ⟨b, off + i * 5 + 2, none⟩ = some (.int .i64 (rsx L i).2.1) ∧
      w.cell? ⟨b, off + i * 5 + 3, none⟩ = some (.bool (rsx L i).2.2.1) ∧ w.cell? ⟨b, off + i * 5 + 3 + 1, none⟩ = some (.float .f64 (rsx L i).2.2.2) := by
  obtain ⟨b, off, c, hi', hA, hc, hk, hcell⟩ := C_at h (by decide) hi
  rw [← rsx_eq hi'] at hk
  have hk := resK_K hk
  subst hk
  have hs : resK.sz = 5 := rfl
  rw [hs] at hcell
  exact ⟨b, off, hA, hcell 0 _ rfl, hcell 1 _ rfl, hcell 2 _ rfl, hcell 3 _ rfl, hcell 4 _ rfl⟩
def absR (x : Rs) : Rs := (x.1, x.2.1, absC x.2.2)
theorem absR_at {L L' : List Rs} (h : L.map absR = L'.map absR) {i : Nat} (hi : i < L.length) : absR (rsx L i) = absR (rsx L' i) := by
  have hl : L.length = L'.length := by have := congrArg List.length h; simpa using this
  have h1 : (L.map absR)[i]? = (L'.map absR)[i]? := by rw [h]
  rw [List.getElem?_map, List.getElem?_map, List.getElem?_eq_getElem hi, List.getElem?_eq_getElem (by omega), ← rsx_eq hi, ← rsx_eq (by omega)] at h1
  exact Option.some.inj h1
set_option maxRecDepth 100000 in
set_option maxHeartbeats 4000000 in
theorem same_results (A A' : Option Addr) (n c n' c' : Nat) (L L' : List Rs) (w : World) (h : resK.C w A n L) (h' : resK.C w A' n' L') (hs : L.map absR = L'.map absR) (ho : ∀ x ∈ L, CellOk x.2.2) (ho' : ∀ x ∈ L', CellOk x.2.2) :
    Calls Try.prog 11 #[.slice A n c, .slice A' n' c'] w fun r w' => r = .returned (.bool true) ∧ Fr (fun _ => False) w w' := by
  have hmx : n ≤ 9223372036854775807 := h.2.1
  have hl : L.length = n := h.1
  have hnn : n' = n := by have h1 := congrArg List.length hs; have h2 : L'.length = n' := h'.1; simp at h1; omega
  subst hnn
  have HL := Lib.hid hl
  have HL' := Lib.hid (show L'.length = n' from h'.1)
  have HC := Lib.hid h
  have HC' := Lib.hid h'
  have HS := Lib.hid hs
  have HO := Lib.hid ho
  have HO' := Lib.hid ho'
  clear hl h h' hs ho ho'
  go_enter Try.func11, Try.ntmps11
  go_wp2_with fail
  go_loopw [5] (fun i wr => ∃ k : Nat, k ≤ n' ∧ i = .int .i64 k ∧ Fr (fun _ => False) w wr) (fun i _ => n' - (intOf i).toNat)
  case atStart => exact ⟨0, Nat.zero_le _, rfl, Fr.refl _ _⟩
  case round =>
    obtain ⟨k, hk, rfl, hG⟩ := hrel
    have HG := Lib.hid hG
    clear hG
    rcases Nat.lt_or_ge k n' with hlt | hge
    · obtain ⟨b, off, rfl, h0, h1, h2, h3, h4⟩ := ress_at HC.out hlt
      obtain ⟨b', off', rfl, h0', h1', h2', h3', h4'⟩ := ress_at HC'.out hlt
      have hab := absR_at HS.out (i := k) (by rw [HL.out]; exact hlt)
      have e1 : (rsx L k).1 = (rsx L' k).1 := (Prod.mk.inj hab).1
      have e2 : (rsx L k).2.1 = (rsx L' k).2.1 := (Prod.mk.inj (Prod.mk.inj hab).2).1
      have e3 : absC (rsx L k).2.2 = absC (rsx L' k).2.2 := (Prod.mk.inj (Prod.mk.inj hab).2).2
      rw [e1] at h0 h1
      rw [e2] at h2
      have HE3 := Lib.hid e3
      have HP := Lib.hid (HO.out _ (rsx_mem (i := k) (by rw [HL.out]; exact hlt)))
      have HP' := Lib.hid (HO'.out _ (rsx_mem (i := k) (by rw [HL'.out]; exact hlt)))
      have hne : ∀ w, (binOp .neq 27 (.agg #[.int .i64 (rsx L' k).1.1, .int .i64 (rsx L' k).1.2]) (.agg #[.int .i64 (rsx L' k).1.1, .int .i64 (rsx L' k).1.2])).run Try.prog w = .ok (.bool false) w := fun w => by
        rw [neqId, decide_eq_true rfl]; rfl
      obtain ⟨St, hSt⟩ : ∃ St : World → Prop, St = Fr (fun _ => False) wr := ⟨_, rfl⟩
      have HT := Lib.hid (show ∀ w', Fr (fun _ => False) wr w' → At St w' from fun w' h => by unfold At; rw [hSt]; exact h)
      have lift : ∀ (q : Addr) (u : Value), w.cell? q = some u → ∀ w', At St w' → w'.cell? q = some u := fun q u hq w' h => by replace h := h.out; rw [hSt] at h; exact (HG.out.trans h).cell hq (fun h => h)
      have l0 := lift _ _ h0
      have l1 := lift _ _ h1
      have l2 := lift _ _ h2
      have l3 := lift _ _ h3
      have l4 := lift _ _ h4
      have m0 := lift _ _ h0'
      have m1 := lift _ _ h1'
      have m2 := lift _ _ h2'
      have m3 := lift _ _ h3'
      have m4 := lift _ _ h4'
      have hT0 := HT.out wr.drew (Fr.refl _ _).drew
      clear lift hSt h0 h1 h2 h3 h4 h0' h1' h2' h3' h4' e1 e2 e3 hab
      go_wp2_with fail
      refine rt_start [] (At St) 38 (by kernel_rfl) rfl ?_
      refine rt_free 0 (v := ?_) rfl (by kernel_rfl) (by kernel_rfl) (by kernel_rfl) (by kernel_rfl) (fun _ _ _ h => h) (by rfl) (fun _ => by first | assumption | exact HS0 _ rfl | exact HT.out _ (by repeat (first | exact Fr.refl _ _ | apply Fr.drew | refine Fr.alloc ?_ _))) ?_ ?_
      rotate_left 1
      · intro w; go_simp <;> with_reducible rfl
      try simp only [Act.put, List.setIfInBounds_toArray, List.set_cons_zero, List.set_cons_succ]
      refine rt_free 1 (v := ?_) rfl (by kernel_rfl) (by kernel_rfl) (by kernel_rfl) (by kernel_rfl) (fun _ _ _ h => h) (by rfl) (fun _ => by first | assumption | exact HS0 _ rfl | exact HT.out _ (by repeat (first | exact Fr.refl _ _ | apply Fr.drew | refine Fr.alloc ?_ _))) ?_ ?_
      rotate_left 1
      · intro w; go_simp <;> with_reducible rfl
      try simp only [Act.put, List.setIfInBounds_toArray, List.set_cons_zero, List.set_cons_succ]
      refine rt_free 2 (v := ?_) rfl (by kernel_rfl) (by kernel_rfl) (by kernel_rfl) (by kernel_rfl) (fun _ _ _ h => h) (by rfl) (fun _ => by first | assumption | exact HS0 _ rfl | exact HT.out _ (by repeat (first | exact Fr.refl _ _ | apply Fr.drew | refine Fr.alloc ?_ _))) ?_ ?_
      rotate_left 1
      · intro w; go_simp <;> with_reducible rfl
      try simp only [Act.put, List.setIfInBounds_toArray, List.set_cons_zero, List.set_cons_succ]
      refine rt_free 3 (v := ?_) rfl (by kernel_rfl) (by kernel_rfl) (by kernel_rfl) (by kernel_rfl) (fun _ _ _ h => h) (by rfl) (fun _ => by first | assumption | exact HS0 _ rfl | exact HT.out _ (by repeat (first | exact Fr.refl _ _ | apply Fr.drew | refine Fr.alloc ?_ _))) ?_ ?_
      rotate_left 1
      · intro w; go_simp <;> with_reducible rfl
      try simp only [Act.put, List.setIfInBounds_toArray, List.set_cons_zero, List.set_cons_succ]
      refine rt_take 4 (v := ?_) rfl (by kernel_rfl) (by kernel_rfl) (by kernel_rfl) (by kernel_rfl) (fun _ _ _ h => h) (by rfl) (by first | assumption | exact HS0 _ rfl | exact HT.out _ (by repeat (first | exact Fr.refl _ _ | apply Fr.drew | refine Fr.alloc ?_ _))) ?_ ?_
      rotate_left 1
      · intro w hSw; go_simp <;> with_reducible rfl
      try simp only [Act.put, List.setIfInBounds_toArray, List.set_cons_zero, List.set_cons_succ]
      refine rt_free 5 (v := ?_) rfl (by kernel_rfl) (by kernel_rfl) (by kernel_rfl) (by kernel_rfl) (fun _ _ _ h => h) (by rfl) (fun _ => by first | assumption | exact HS0 _ rfl | exact HT.out _ (by repeat (first | exact Fr.refl _ _ | apply Fr.drew | refine Fr.alloc ?_ _))) ?_ ?_
      rotate_left 1
      · intro w; go_simp <;> with_reducible rfl
      try simp only [Act.put, List.setIfInBounds_toArray, List.set_cons_zero, List.set_cons_succ]
      refine rt_free 6 (v := ?_) rfl (by kernel_rfl) (by kernel_rfl) (by kernel_rfl) (by kernel_rfl) (fun _ _ _ h => h) (by rfl) (fun _ => by first | assumption | exact HS0 _ rfl | exact HT.out _ (by repeat (first | exact Fr.refl _ _ | apply Fr.drew | refine Fr.alloc ?_ _))) ?_ ?_
      rotate_left 1
      · intro w; go_simp <;> with_reducible rfl
      try simp only [Act.put, List.setIfInBounds_toArray, List.set_cons_zero, List.set_cons_succ]
      refine rt_free 7 (v := ?_) rfl (by kernel_rfl) (by kernel_rfl) (by kernel_rfl) (by kernel_rfl) (fun _ _ _ h => h) (by rfl) (fun _ => by first | assumption | exact HS0 _ rfl | exact HT.out _ (by repeat (first | exact Fr.refl _ _ | apply Fr.drew | refine Fr.alloc ?_ _))) ?_ ?_
      rotate_left 1
      · intro w; go_simp <;> with_reducible rfl
      try simp only [Act.put, List.setIfInBounds_toArray, List.set_cons_zero, List.set_cons_succ]
      refine rt_free 8 (v := ?_) rfl (by kernel_rfl) (by kernel_rfl) (by kernel_rfl) (by kernel_rfl) (fun _ _ _ h => h) (by rfl) (fun _ => by first | assumption | exact HS0 _ rfl | exact HT.out _ (by repeat (first | exact Fr.refl _ _ | apply Fr.drew | refine Fr.alloc ?_ _))) ?_ ?_
      rotate_left 1
      · intro w; go_simp <;> with_reducible rfl
      try simp only [Act.put, List.setIfInBounds_toArray, List.set_cons_zero, List.set_cons_succ]
      refine rt_take 9 (v := ?_) rfl (by kernel_rfl) (by kernel_rfl) (by kernel_rfl) (by kernel_rfl) (fun _ _ _ h => h) (by rfl) (by first | assumption | exact HS0 _ rfl | exact HT.out _ (by repeat (first | exact Fr.refl _ _ | apply Fr.drew | refine Fr.alloc ?_ _))) ?_ ?_
      rotate_left 1
      · intro w hSw; go_simp <;> with_reducible rfl
      try simp only [Act.put, List.setIfInBounds_toArray, List.set_cons_zero, List.set_cons_succ]
      refine rt_free 10 (v := ?_) rfl (by kernel_rfl) (by kernel_rfl) (by kernel_rfl) (by kernel_rfl) (fun _ _ _ h => h) (by rfl) (fun _ => by first | assumption | exact HS0 _ rfl | exact HT.out _ (by repeat (first | exact Fr.refl _ _ | apply Fr.drew | refine Fr.alloc ?_ _))) ?_ ?_
      rotate_left 1
      · intro w; go_simp <;> with_reducible rfl
      try simp only [Act.put, List.setIfInBounds_toArray, List.set_cons_zero, List.set_cons_succ]
      refine rt_free 11 (v := ?_) rfl (by kernel_rfl) (by kernel_rfl) (by kernel_rfl) (by kernel_rfl) (fun _ _ _ h => h) (by rfl) (fun _ => by first | assumption | exact HS0 _ rfl | exact HT.out _ (by repeat (first | exact Fr.refl _ _ | apply Fr.drew | refine Fr.alloc ?_ _))) ?_ ?_
      rotate_left 1
      · intro w; go_simp <;> with_reducible rfl
      try simp only [Act.put, List.setIfInBounds_toArray, List.set_cons_zero, List.set_cons_succ]
      refine rt_free 12 (v := ?_) rfl (by kernel_rfl) (by kernel_rfl) (by kernel_rfl) (by kernel_rfl) (fun _ _ _ h => h) (by rfl) (fun _ => by first | assumption | exact HS0 _ rfl | exact HT.out _ (by repeat (first | exact Fr.refl _ _ | apply Fr.drew | refine Fr.alloc ?_ _))) ?_ ?_
      rotate_left 1
      · intro w; go_simp <;> with_reducible rfl
      try simp only [Act.put, List.setIfInBounds_toArray, List.set_cons_zero, List.set_cons_succ]
      refine rt_free 13 (v := ?_) rfl (by kernel_rfl) (by kernel_rfl) (by kernel_rfl) (by kernel_rfl) (fun _ _ _ h => h) (by rfl) (fun _ => by first | assumption | exact HS0 _ rfl | exact HT.out _ (by repeat (first | exact Fr.refl _ _ | apply Fr.drew | refine Fr.alloc ?_ _))) ?_ ?_
      rotate_left 1
      · intro w; go_simp <;> with_reducible rfl
      try simp only [Act.put, List.setIfInBounds_toArray, List.set_cons_zero, List.set_cons_succ]
      refine rt_free 14 (v := ?_) rfl (by kernel_rfl) (by kernel_rfl) (by kernel_rfl) (by kernel_rfl) (fun _ _ _ h => h) (by rfl) (fun _ => by first | assumption | exact HS0 _ rfl | exact HT.out _ (by repeat (first | exact Fr.refl _ _ | apply Fr.drew | refine Fr.alloc ?_ _))) ?_ ?_
      rotate_left 1
      · intro w; go_simp <;> with_reducible rfl
      try simp only [Act.put, List.setIfInBounds_toArray, List.set_cons_zero, List.set_cons_succ]
      refine rt_free 15 (v := ?_) rfl (by kernel_rfl) (by kernel_rfl) (by kernel_rfl) (by kernel_rfl) (fun _ _ _ h => h) (by rfl) (fun _ => by first | assumption | exact HS0 _ rfl | exact HT.out _ (by repeat (first | exact Fr.refl _ _ | apply Fr.drew | refine Fr.alloc ?_ _))) ?_ ?_
      rotate_left 1
      · intro w; go_simp <;> with_reducible rfl
      try simp only [Act.put, List.setIfInBounds_toArray, List.set_cons_zero, List.set_cons_succ]
      refine rt_take 16 (v := ?_) rfl (by kernel_rfl) (by kernel_rfl) (by kernel_rfl) (by kernel_rfl) (fun _ _ _ h => h) (by rfl) (by first | assumption | exact HS0 _ rfl | exact HT.out _ (by repeat (first | exact Fr.refl _ _ | apply Fr.drew | refine Fr.alloc ?_ _))) ?_ ?_
      rotate_left 1
      · intro w hSw; go_simp <;> with_reducible rfl
      try simp only [Act.put, List.setIfInBounds_toArray, List.set_cons_zero, List.set_cons_succ]
      refine rt_free 17 (v := ?_) rfl (by kernel_rfl) (by kernel_rfl) (by kernel_rfl) (by kernel_rfl) (fun _ _ _ h => h) (by rfl) (fun _ => by first | assumption | exact HS0 _ rfl | exact HT.out _ (by repeat (first | exact Fr.refl _ _ | apply Fr.drew | refine Fr.alloc ?_ _))) ?_ ?_
      rotate_left 1
      · intro w; go_simp <;> with_reducible rfl
      try simp only [Act.put, List.setIfInBounds_toArray, List.set_cons_zero, List.set_cons_succ]
      refine rt_free 18 (v := ?_) rfl (by kernel_rfl) (by kernel_rfl) (by kernel_rfl) (by kernel_rfl) (fun _ _ _ h => h) (by rfl) (fun _ => by first | assumption | exact HS0 _ rfl | exact HT.out _ (by repeat (first | exact Fr.refl _ _ | apply Fr.drew | refine Fr.alloc ?_ _))) ?_ ?_
      rotate_left 1
      · intro w; go_simp <;> with_reducible rfl
      try simp only [Act.put, List.setIfInBounds_toArray, List.set_cons_zero, List.set_cons_succ]
      refine rt_free 19 (v := ?_) rfl (by kernel_rfl) (by kernel_rfl) (by kernel_rfl) (by kernel_rfl) (fun _ _ _ h => h) (by rfl) (fun _ => by first | assumption | exact HS0 _ rfl | exact HT.out _ (by repeat (first | exact Fr.refl _ _ | apply Fr.drew | refine Fr.alloc ?_ _))) ?_ ?_
      rotate_left 1
      · intro w; go_simp <;> with_reducible rfl
      try simp only [Act.put, List.setIfInBounds_toArray, List.set_cons_zero, List.set_cons_succ]
      refine rt_free 20 (v := ?_) rfl (by kernel_rfl) (by kernel_rfl) (by kernel_rfl) (by kernel_rfl) (fun _ _ _ h => h) (by rfl) (fun _ => by first | assumption | exact HS0 _ rfl | exact HT.out _ (by repeat (first | exact Fr.refl _ _ | apply Fr.drew | refine Fr.alloc ?_ _))) ?_ ?_
      rotate_left 1
      · intro w; go_simp <;> with_reducible rfl
      try simp only [Act.put, List.setIfInBounds_toArray, List.set_cons_zero, List.set_cons_succ]
      refine rt_take 21 (v := ?_) rfl (by kernel_rfl) (by kernel_rfl) (by kernel_rfl) (by kernel_rfl) (fun _ _ _ h => h) (by rfl) (by first | assumption | exact HS0 _ rfl | exact HT.out _ (by repeat (first | exact Fr.refl _ _ | apply Fr.drew | refine Fr.alloc ?_ _))) ?_ ?_
      rotate_left 1
      · intro w hSw; go_simp <;> with_reducible rfl
      try simp only [Act.put, List.setIfInBounds_toArray, List.set_cons_zero, List.set_cons_succ]
      refine rt_free 22 (v := ?_) rfl (by kernel_rfl) (by kernel_rfl) (by kernel_rfl) (by kernel_rfl) (fun _ _ _ h => h) (by rfl) (fun _ => by first | assumption | exact HS0 _ rfl | exact HT.out _ (by repeat (first | exact Fr.refl _ _ | apply Fr.drew | refine Fr.alloc ?_ _))) ?_ ?_
      rotate_left 1
      · intro w; go_simp <;> with_reducible rfl
      try simp only [Act.put, List.setIfInBounds_toArray, List.set_cons_zero, List.set_cons_succ]
      refine rt_free 23 (v := ?_) rfl (by kernel_rfl) (by kernel_rfl) (by kernel_rfl) (by kernel_rfl) (fun _ _ _ h => h) (by rfl) (fun _ => by first | assumption | exact HS0 _ rfl | exact HT.out _ (by repeat (first | exact Fr.refl _ _ | apply Fr.drew | refine Fr.alloc ?_ _))) ?_ ?_
      rotate_left 1
      · intro w; go_simp <;> with_reducible rfl
      try simp only [Act.put, List.setIfInBounds_toArray, List.set_cons_zero, List.set_cons_succ]
      refine rt_free 24 (v := ?_) rfl (by kernel_rfl) (by kernel_rfl) (by kernel_rfl) (by kernel_rfl) (fun _ _ _ h => h) (by rfl) (fun _ => by first | assumption | exact HS0 _ rfl | exact HT.out _ (by repeat (first | exact Fr.refl _ _ | apply Fr.drew | refine Fr.alloc ?_ _))) ?_ ?_
      rotate_left 1
      · intro w; go_simp <;> with_reducible rfl
      try simp only [Act.put, List.setIfInBounds_toArray, List.set_cons_zero, List.set_cons_succ]
      refine rt_free 25 (v := ?_) rfl (by kernel_rfl) (by kernel_rfl) (by kernel_rfl) (by kernel_rfl) (fun _ _ _ h => h) (by rfl) (fun _ => by first | assumption | exact HS0 _ rfl | exact HT.out _ (by repeat (first | exact Fr.refl _ _ | apply Fr.drew | refine Fr.alloc ?_ _))) ?_ ?_
      rotate_left 1
      · intro w; go_simp <;> with_reducible rfl
      try simp only [Act.put, List.setIfInBounds_toArray, List.set_cons_zero, List.set_cons_succ]
      refine rt_free 26 (v := ?_) rfl (by kernel_rfl) (by kernel_rfl) (by kernel_rfl) (by kernel_rfl) (fun _ _ _ h => h) (by rfl) (fun _ => by first | assumption | exact HS0 _ rfl | exact HT.out _ (by repeat (first | exact Fr.refl _ _ | apply Fr.drew | refine Fr.alloc ?_ _))) ?_ ?_
      rotate_left 1
      · intro w; go_simp <;> with_reducible rfl
      try simp only [Act.put, List.setIfInBounds_toArray, List.set_cons_zero, List.set_cons_succ]
      refine rt_free 27 (v := ?_) rfl (by kernel_rfl) (by kernel_rfl) (by kernel_rfl) (by kernel_rfl) (fun _ _ _ h => h) (by rfl) (fun _ => by first | assumption | exact HS0 _ rfl | exact HT.out _ (by repeat (first | exact Fr.refl _ _ | apply Fr.drew | refine Fr.alloc ?_ _))) ?_ ?_
      rotate_left 1
      · intro w; go_simp <;> with_reducible rfl
      try simp only [Act.put, List.setIfInBounds_toArray, List.set_cons_zero, List.set_cons_succ]
      refine rt_free 28 (v := ?_) rfl (by kernel_rfl) (by kernel_rfl) (by kernel_rfl) (by kernel_rfl) (fun _ _ _ h => h) (by rfl) (fun _ => by first | assumption | exact HS0 _ rfl | exact HT.out _ (by repeat (first | exact Fr.refl _ _ | apply Fr.drew | refine Fr.alloc ?_ _))) ?_ ?_
      rotate_left 1
      · intro w; go_simp <;> with_reducible rfl
      try simp only [Act.put, List.setIfInBounds_toArray, List.set_cons_zero, List.set_cons_succ]
      refine rt_take 29 (v := ?_) rfl (by kernel_rfl) (by kernel_rfl) (by kernel_rfl) (by kernel_rfl) (fun _ _ _ h => h) (by rfl) (by first | assumption | exact HS0 _ rfl | exact HT.out _ (by repeat (first | exact Fr.refl _ _ | apply Fr.drew | refine Fr.alloc ?_ _))) ?_ ?_
      rotate_left 1
      · intro w hSw; go_simp <;> with_reducible rfl
      try simp only [Act.put, List.setIfInBounds_toArray, List.set_cons_zero, List.set_cons_succ]
      refine rt_free 30 (v := ?_) rfl (by kernel_rfl) (by kernel_rfl) (by kernel_rfl) (by kernel_rfl) (fun _ _ _ h => h) (by rfl) (fun _ => by first | assumption | exact HS0 _ rfl | exact HT.out _ (by repeat (first | exact Fr.refl _ _ | apply Fr.drew | refine Fr.alloc ?_ _))) ?_ ?_
      rotate_left 1
      · intro w; go_simp <;> with_reducible rfl
      try simp only [Act.put, List.setIfInBounds_toArray, List.set_cons_zero, List.set_cons_succ]
      refine rt_free 31 (v := ?_) rfl (by kernel_rfl) (by kernel_rfl) (by kernel_rfl) (by kernel_rfl) (fun _ _ _ h => h) (by rfl) (fun _ => by first | assumption | exact HS0 _ rfl | exact HT.out _ (by repeat (first | exact Fr.refl _ _ | apply Fr.drew | refine Fr.alloc ?_ _))) ?_ ?_
      rotate_left 1
      · intro w; go_simp <;> with_reducible rfl
      try simp only [Act.put, List.setIfInBounds_toArray, List.set_cons_zero, List.set_cons_succ]
      refine rt_free 32 (v := ?_) rfl (by kernel_rfl) (by kernel_rfl) (by kernel_rfl) (by kernel_rfl) (fun _ _ _ h => h) (by rfl) (fun _ => by first | assumption | exact HS0 _ rfl | exact HT.out _ (by repeat (first | exact Fr.refl _ _ | apply Fr.drew | refine Fr.alloc ?_ _))) ?_ ?_
      rotate_left 1
      · intro w; go_simp <;> with_reducible rfl
      try simp only [Act.put, List.setIfInBounds_toArray, List.set_cons_zero, List.set_cons_succ]
      refine rt_free 33 (v := ?_) rfl (by kernel_rfl) (by kernel_rfl) (by kernel_rfl) (by kernel_rfl) (fun _ _ _ h => h) (by rfl) (fun _ => by first | assumption | exact HS0 _ rfl | exact HT.out _ (by repeat (first | exact Fr.refl _ _ | apply Fr.drew | refine Fr.alloc ?_ _))) ?_ ?_
      rotate_left 1
      · intro w; go_simp <;> with_reducible rfl
      try simp only [Act.put, List.setIfInBounds_toArray, List.set_cons_zero, List.set_cons_succ]
      refine rt_take 34 (v := ?_) rfl (by kernel_rfl) (by kernel_rfl) (by kernel_rfl) (by kernel_rfl) (fun _ _ _ h => h) (by rfl) (by first | assumption | exact HS0 _ rfl | exact HT.out _ (by repeat (first | exact Fr.refl _ _ | apply Fr.drew | refine Fr.alloc ?_ _))) ?_ ?_
      rotate_left 1
      · intro w hSw; go_simp <;> with_reducible rfl
      try simp only [Act.put, List.setIfInBounds_toArray, List.set_cons_zero, List.set_cons_succ]
      refine rt_one 35 rfl (by kernel_rfl) (fun K hK => ?_)
      go_simp
      refine (ref_cell_same (rsx L k).2.2 (rsx L' k).2.2 _ HP.out HP'.out).mono ?_
      rintro r W3 ⟨rfl, hF3⟩
      rw [decide_eq_true HE3.out]
      have HF3 := Lib.hid hF3
      have hT3 := HT.out _ ((Fr.refl _ _).drew.trans hF3)
      clear hF3
      go_wp2_with fail
      refine hK.out (At St) _ _ (fun _ h => h) (fun _ => by (assumption)) ?_
      clear hK K
      try simp only [Act.put, List.setIfInBounds_toArray, List.set_cons_zero, List.set_cons_succ]
      refine rt_free 36 (v := ?_) rfl (by kernel_rfl) (by kernel_rfl) (by kernel_rfl) (by kernel_rfl) (fun _ _ _ h => h) (by rfl) (fun _ => by first | assumption | exact HS0 _ rfl | exact HT.out _ (by repeat (first | exact Fr.refl _ _ | apply Fr.drew | refine Fr.alloc ?_ _))) ?_ ?_
      rotate_left 1
      · intro w; go_simp <;> with_reducible rfl
      try simp only [Act.put, List.setIfInBounds_toArray, List.set_cons_zero, List.set_cons_succ]
      refine rt_free 37 (v := ?_) rfl (by kernel_rfl) (by kernel_rfl) (by kernel_rfl) (by kernel_rfl) (fun _ _ _ h => h) (by rfl) (fun _ => by first | assumption | exact HS0 _ rfl | exact HT.out _ (by repeat (first | exact Fr.refl _ _ | apply Fr.drew | refine Fr.alloc ?_ _))) ?_ ?_
      rotate_left 1
      · intro w; go_simp <;> with_reducible rfl
      try simp only [Act.put, List.setIfInBounds_toArray, List.set_cons_zero, List.set_cons_succ]
      refine rt_done (by kernel_rfl) ?_
      clear l0 l1 l2 l3 l4 m0 m1 m2 m3 m4 hT0 hT3
      go_wp2_with fail
      go_roundw
      case rel => exact ⟨k + 1, by omega, by go_num, HG.out.trans ((Fr.refl _ _).drew.trans HF3.out)⟩
      case measure => simp [intOf]; omega
    · obtain rfl : n' = k := by omega
      have tnn : decide (n' < n') = false := decide_eq_false (by omega)
      go_wp2_with fail
      go_ret
      exact ⟨rfl, HG.out⟩
end Go.Proofs.Ytepfhcimmbkilaa
