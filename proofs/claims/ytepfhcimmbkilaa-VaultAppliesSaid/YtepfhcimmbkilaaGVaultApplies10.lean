/- Texts of VaultApplies, merged (10 of 33): VaultD, VaultG. -/
import Derived.Test.YtepfhcimmbkilaaGVaultApplies7
import Derived.Test.YtepfhcimmbkilaaGVaultApplies8
import Derived.Test.YtepfhcimmbkilaaGVaultApplies9
import Derived.Carry
set_option linter.unusedVariables false
set_option linter.unusedSimpArgs false
/- Vaults: what one holds, as a history of commands. -/
namespace Go.Proofs.Ytepfhcimmbkilaa
open Go.RowKit
open Go.Proofs.YtepfhcimmbkilaaW.PrintWords

def strE : KEnc Try.prog 9 ByteArray where
  enc := .string
  ok := fun s => s.size ≤ maxLen
  law := Maps.string_keyed Try.underlying9
  key := fun {a} h => by
    simp only [keyOf, Try.underlying9, mapKey, h, if_true]
    exact ⟨_, rfl⟩
  inj := fun h => by injection h
/-- Whose a command is, its place, itself. -/
abbrev HE := (Int × Int) × Int × Cmd
noncomputable def cellStep (key : ByteArray) (c : CellD) (e : HE) : CellD := bif cdec (e.2.2.2.1 = key) then (doC c e.2.2).1 else c
noncomputable def cellOf (H : List HE) (key : ByteArray) : CellD := H.foldl (cellStep key) (false, 0)
def wrote (key : ByteArray) (e : HE) : Prop := e.2.2.2.1 = key ∧ cmdOk e.2.2 ∧ e.2.2.1 ≠ 1
noncomputable def logOf (H : List HE) (key : ByteArray) : List ((Int × Int) × Int) := (H.filter (fun e => cdec (wrote key e))).map (fun e => (e.1, e.2.1))
theorem cellOf_snoc (H : List HE) (e : HE) (key : ByteArray) : cellOf (H ++ [e]) key = cellStep key (cellOf H key) e := by unfold cellOf; rw [List.foldl_append]; rfl
theorem logOf_yes {H : List HE} {e : HE} {key : ByteArray} (h : wrote key e) : logOf (H ++ [e]) key = logOf H key ++ [(e.1, e.2.1)] := by
  unfold logOf
  rw [List.filter_append, List.map_append, List.filter_cons_of_pos (by rw [cdec_true h])]
  rfl
theorem logOf_no {H : List HE} {e : HE} {key : ByteArray} (h : ¬ wrote key e) : logOf (H ++ [e]) key = logOf H key := by
  unfold logOf
  rw [List.filter_append, List.map_append, List.filter_cons_of_neg (by rw [cdec_false h]; decide)]
  simp
def CellC (c : CellD) : Prop := CellOk c ∧ absC c = c
theorem doC_canon {c : CellD} {x : Cmd} (hc : CellC c) (hx : CmdGood x) : CellC (doC c x).1 ∧ CellC (doC c x).2 := by
  have h0 : CellC (false, 0) := ⟨cell0_ok, rfl⟩
  by_cases hq : cmdOk x
  · rcases hq.1 with hk | hk | hk | hk
    · rw [doC_get hq hk]; exact ⟨hc, hc⟩
    · rw [doC_put hq hk]; exact ⟨⟨canon_lt hx.2, by show (true, canonP (canonP _)) = _; rw [canon_canon]⟩, hc⟩
    · rw [doC_del hq hk]; exact ⟨h0, hc⟩
    · rw [doC_add hq hk]; exact ⟨⟨sumC_lt _ _, by show (true, canonP _) = _; rw [canon_sumC]⟩, ⟨sumC_lt _ _, by show (true, canonP _) = _; rw [canon_sumC]⟩⟩
  · rw [doC_bad hq]; exact ⟨hc, h0⟩
def HGood (H : List HE) : Prop := ∀ e ∈ H, CmdGood e.2.2
theorem foldl_canon (key : ByteArray) : ∀ (H : List HE) (c : CellD), HGood H → CellC c → CellC (H.foldl (cellStep key) c)
  | [], c, _, hc => hc
  | e :: H, c, hH, hc => by
    refine foldl_canon key H _ (fun x hx => hH x (List.mem_cons_of_mem _ hx)) ?_
    unfold cellStep
    by_cases h : e.2.2.2.1 = key
    · rw [cdec_true h]; exact (doC_canon hc (hH e List.mem_cons_self)).1
    · rw [cdec_false h]; exact hc
theorem cellOf_canon {H : List HE} (hH : HGood H) (key : ByteArray) : CellC (cellOf H key) := foldl_canon key H _ hH ⟨cell0_ok, rfl⟩
/-- A batch's commands, with whose they are, and their places. -/
def tagN (id : Int × Int) (L : List Cmd) (k : Nat) : List HE := (List.range k).map fun (i : Nat) => (id, (i : Int), cmx L i)
theorem tagN_succ (id : Int × Int) (L : List Cmd) (k : Nat) : tagN id L (k + 1) = tagN id L k ++ [(id, (k : Int), cmx L k)] := by
  unfold tagN; rw [List.range_succ, List.map_append]; rfl
theorem tagN_good {id : Int × Int} {L : List Cmd} {k : Nat} (hk : k ≤ L.length) (hL : ∀ x ∈ L, CmdGood x) : HGood (tagN id L k) := fun e he => by
  obtain ⟨i, hi, rfl⟩ := List.mem_map.1 he
  exact hL _ (cmx_mem (Nat.lt_of_lt_of_le (List.mem_range.1 hi) hk))
theorem HGood.append {H H' : List HE} (h : HGood H) (h' : HGood H') : HGood (H ++ H') := fun e he => (List.mem_append.1 he).elim (h e) (h' e)
/-- What a batch's commands tell behind a history. -/
noncomputable def toldN (H : List HE) (id : Int × Int) (L : List Cmd) (k : Nat) : List ((Int × Int) × Int × CellD) :=
  (List.range k).map fun (i : Nat) => (id, (i : Int), (doC (cellOf (H ++ tagN id L i) (cmx L i).2.1) (cmx L i)).2)
theorem toldN_succ (H : List HE) (id : Int × Int) (L : List Cmd) (k : Nat) : toldN H id L (k + 1) = toldN H id L k ++ [(id, (k : Int), (doC (cellOf (H ++ tagN id L k) (cmx L k).2.1) (cmx L k)).2)] := by
  unfold toldN; rw [List.range_succ, List.map_append]; rfl
theorem toldN_len (H : List HE) (id : Int × Int) (L : List Cmd) (k : Nat) : (toldN H id L k).length = k := by unfold toldN; rw [List.length_map, List.length_range]

abbrev Wr := (Int × Int) × Int
def wrK : Kd Wr := Kd.pair idK (Kd.int .i64)
abbrev wrCells (a : Wr) : List Value := [.int .i64 a.1.1, .int .i64 a.1.2, .int .i64 a.2]
theorem wrK_K {w : World} {a : Wr} {c : List Value} (h : wrK.K w a c) : c = wrCells a := by
  obtain ⟨c0, c1, rfl, h0, h1⟩ := h
  rw [idK_K h0, show c1 = [.int .i64 a.2] from h1]
  rfl
theorem wrK_M (w : World) (base : Nat) (ok : Nat → Prop) (a : Wr) : wrK.M w base ok a (wrCells a) := ⟨[.int .i64 a.1.1, .int .i64 a.1.2], [.int .i64 a.2], rfl, idK_M _ _ _ _, rfl⟩
theorem wrFlat : Flat wrK wrCells := ⟨fun _ => rfl, fun h => wrK_K h, fun w b ok x => wrK_M w b ok x⟩
abbrev Rs := (Int × Int) × Int × CellD
def cellK : Kd CellD := Kd.pair Kd.bool kfloat
def resK : Kd Rs := Kd.pair idK (Kd.pair (Kd.int .i64) cellK)
abbrev resCells (a : Rs) : List Value := [.int .i64 a.1.1, .int .i64 a.1.2, .int .i64 a.2.1, .bool a.2.2.1, .float .f64 a.2.2.2]
theorem resK_K {w : World} {a : Rs} {c : List Value} (h : resK.K w a c) : c = resCells a := by
  obtain ⟨c0, c1, rfl, h0, c2, c3, rfl, h1, c4, c5, rfl, h2, h3⟩ := h
  rw [idK_K h0, show c2 = [.int .i64 a.2.1] from h1, show c4 = [.bool a.2.2.1] from h2, show c5 = [.float .f64 a.2.2.2] from h3]
  rfl
theorem resK_M (w : World) (base : Nat) (ok : Nat → Prop) (a : Rs) : resK.M w base ok a (resCells a) :=
  ⟨[.int .i64 a.1.1, .int .i64 a.1.2], [.int .i64 a.2.1, .bool a.2.2.1, .float .f64 a.2.2.2], rfl, idK_M _ _ _ _, [.int .i64 a.2.1], [.bool a.2.2.1, .float .f64 a.2.2.2], rfl, rfl, [.bool a.2.2.1], [.float .f64 a.2.2.2], rfl, rfl, rfl⟩
theorem resFlat : Flat resK resCells := ⟨fun _ => rfl, fun h => resK_K h, fun w b ok x => resK_M w b ok x⟩
theorem info_wr : (Try.prog.info? 67).map (fun i => (i.zero, i.size, i.bytes)) = some (some (.agg #[.int .i64 0, .int .i64 0, .int .i64 0]), wrK.sz, 24) := by kernel_rfl
theorem info_res : (Try.prog.info? 55).map (fun i => (i.zero, i.size, i.bytes)) = some (some (.agg #[.int .i64 0, .int .i64 0, .int .i64 0, .bool false, .float .f64 0]), resK.sz, 40) := by kernel_rfl
abbrev Hdr := Option Addr × Nat × Nat
abbrev hdrV (h : Hdr) : Value := .slice h.1 h.2.1 h.2.2

/-- What elements of a fixed form a row has hangs on its own block alone. -/
theorem Flat.C_move {α : Type} {d : Kd α} {enc : α → List Value} (hf : Flat d enc) {w w' : World} {A : Option Addr} {n : Nat} {L : List α} (h : d.C w A n L) (hb : 0 < n → ∀ ad, A = some ad → w'.heap[ad.block]? = w.heap[ad.block]?) : d.C w' A n L := by
  refine ⟨h.1, h.2.1, fun hp => ?_⟩
  obtain ⟨ad, hA, hc⟩ := h.2.2 hp
  refine ⟨ad, hA, ?_⟩
  intro j p hj
  obtain ⟨c, hs, hr, hcell⟩ := hc j p hj
  rw [hf.K hr] at hcell
  exact ⟨enc p, hf.len p, d.K_of_M (hf.M w' 0 (fun _ => True) p), fun i u hu => (World.cell?_of_block (by rw [add_block]; exact hb hp ad hA)).trans (hcell i u hu)⟩
/-- The logs' slices are those of G; each has its own block. -/
structure LogsAt (w : World) (S : Nat → Prop) (Lh : ByteArray → Option Hdr) (G : ByteArray → List Wr) : Prop where
  row : ∀ k h, Lh k = some h → wrK.R 67 w 0 S (hdrV h) (G k)
  none_ : ∀ k, Lh k = none → G k = []
  apart : ∀ k k' h h' b, Lh k = some h → Lh k' = some h' → (hdrV h).ownBlock = some b → (hdrV h').ownBlock = some b → k = k'
structure VaultAt (w : World) (S : Nat → Prop) (g mc ml : Nat) (F : ByteArray → Option CellD) (Lh : ByteArray → Option Hdr) (H : List HE) (n : Nat) : Prop where
  blk : Blk w g 62 #[.map (some mc), .map (some ml), .int .i64 n]
  own : S g ∧ S mc ∧ S ml
  ne : mc ≠ ml
  cells : MapIn strE cellV w mc F
  cell : ∀ k, (F k).getD (false, 0) = cellOf H k
  logs : MapIn strE hdrV w ml Lh
  log : LogsAt w S Lh (logOf H)
  lt : ∀ k, S k → k < w.heap.size
/-- At g lies a vault behind the history H; its blocks are of S. -/
def VaultRep (w : World) (S : Nat → Prop) (g : Nat) (H : List HE) (n : Nat) : Prop := ∃ mc ml F Lh, VaultAt w S g mc ml F Lh H n
theorem LogsAt.fr {w w' : World} {S T : Nat → Prop} {Lh : ByteArray → Option Hdr} {G : ByteArray → List Wr} (h : LogsAt w S Lh G) (hF : Fr T w w') (hd : ∀ b, S b → ¬ T b) : LogsAt w' S Lh G :=
  ⟨fun k hd' hk => Kd.R_step (h.row k hd' hk) (fun b hb hl => hF.block b hl (hd b hb)), h.none_, h.apart⟩
theorem VaultAt.fr {w w' : World} {S T : Nat → Prop} {g mc ml : Nat} {F : ByteArray → Option CellD} {Lh : ByteArray → Option Hdr} {H : List HE} {n : Nat} (h : VaultAt w S g mc ml F Lh H n) (hF : Fr T w w') (hd : ∀ b, S b → ¬ T b) : VaultAt w' S g mc ml F Lh H n :=
  ⟨h.blk.fr hF (hd _ h.own.1), h.own, h.ne, h.cells.fr hF (hd _ h.own.2.1), h.cell, h.logs.fr hF (hd _ h.own.2.2), h.log.fr hF hd, fun k hk => Nat.lt_of_lt_of_le (h.lt k hk) hF.size⟩
theorem VaultRep.fr {w w' : World} {S T : Nat → Prop} {g : Nat} {H : List HE} {n : Nat} (h : VaultRep w S g H n) (hF : Fr T w w') (hd : ∀ b, S b → ¬ T b) : VaultRep w' S g H n := by
  obtain ⟨mc, ml, F, Lh, h⟩ := h
  exact ⟨mc, ml, F, Lh, h.fr hF hd⟩
theorem VaultRep.lt {w : World} {S : Nat → Prop} {g : Nat} {H : List HE} {n : Nat} (h : VaultRep w S g H n) : ∀ k, S k → k < w.heap.size := by
  obtain ⟨mc, ml, F, Lh, h⟩ := h
  exact h.lt
theorem vault_new (w : World) : Calls Try.prog 6 #[] w fun r w' => ∃ g S, r = .returned (.pointer (some ⟨g, 0, none⟩)) ∧ VaultRep w' S g [] 0 ∧ (∀ k, S k → w.heap.size ≤ k) ∧ Fr (fun _ => False) w w' := by
  have h1 := ((MapIn.new strE cellV w).alloc (.map #[] 0)).alloc (.cells #[.map (some w.heap.size), .map (some (w.heap.size + 1)), .int .i64 0] 62)
  have h2 := (MapIn.new strE hdrV (w.alloc (.map #[] 0))).alloc (.cells #[.map (some w.heap.size), .map (some (w.heap.size + 1)), .int .i64 0] 62)
  have h3 := Blk.new ((w.alloc (.map #[] 0)).alloc (.map #[] 0)) 62 #[.map (some w.heap.size), .map (some (w.heap.size + 1)), .int .i64 0]
  have hF := (((Fr.refl (fun _ => False) w).alloc (.map #[] 0)).alloc (.map #[] 0)).alloc (.cells #[.map (some w.heap.size), .map (some (w.heap.size + 1)), .int .i64 0] 62)
  rw [World.size_alloc] at h2
  rw [World.size_alloc, World.size_alloc] at h3
  have hmm := @run_makeMap Try.prog
  go_enter Try.func6, Try.ntmps6
  go_wp2_with fail
  go_ret
  refine ⟨_, fun k => k = w.heap.size ∨ k = w.heap.size + 1 ∨ k = w.heap.size + 1 + 1, rfl, ⟨_, _, _, _, ⟨h3, ⟨.inr (.inr rfl), .inl rfl, .inr (.inl rfl)⟩, by omega, h1, fun k => rfl, h2, ⟨fun k h hk => (by cases hk), fun k _ => rfl, fun k k' h h' b hk => (by cases hk)⟩, ?_⟩⟩, ?_, hF⟩
  · intro k hk
    simp only [World.size_alloc]
    omega
  · intro k hk
    omega
theorem wr_own {e : TypeId} {w : World} {base : Nat} {ok : Nat → Prop} {v : Value} {xs : List Wr} (h : wrK.R e w base ok v xs) : wrK.R e w base (fun b => v.ownBlock = some b) v xs := by
  obtain ⟨_, inner, hown, hr⟩ := h
  exact ⟨fun k hk => hk, inner, hown, hr.imp_ (fun x c h => by rw [wrFlat.K (wrK.K_of_M h)]; exact wrK_M _ _ _ _)⟩
theorem LogsAt.append {w w1 : World} {S : Nat → Prop} {Lh : ByteArray → Option Hdr} {G : ByteArray → List Wr} (h : LogsAt w S Lh G) {key : ByteArray} {e : Wr} {v0 : Value} (hv0 : v0 = (Lh key).elim (.slice none 0 0) hdrV) {top : Nat} {h1 : Hdr}
    (hR1 : wrK.R 67 w1 0 (fun b => S b ∨ top ≤ b) (hdrV h1) (G key ++ [e])) (hg : w.grownBy w1 v0.ownBlock) (hat : (hdrV h1).ownBlock = v0.ownBlock ∨ ∃ b, (hdrV h1).ownBlock = some b ∧ w.heap.size ≤ b) :
    LogsAt w1 (fun b => S b ∨ (top ≤ b ∧ b < w1.heap.size)) (fun x => if x = key then some h1 else Lh x) (fun x => if x = key then G key ++ [e] else G x) := by
  have hv : ∀ b, v0.ownBlock = some b → ∃ h0, Lh key = some h0 ∧ (hdrV h0).ownBlock = some b := fun b hb => by
    cases hq : Lh key with
    | none => rw [hv0, hq] at hb; simp [Value.ownBlock] at hb
    | some h0 => rw [hv0, hq] at hb; exact ⟨h0, rfl, hb⟩
  have hx : ∀ k h' b, k ≠ key → Lh k = some h' → (hdrV h').ownBlock = some b → some b ≠ v0.ownBlock := fun k h' b hk hq hb he => by
    obtain ⟨h0, q0, o0⟩ := hv b he.symm
    exact hk (h.apart k key h' h0 b hq q0 hb o0)
  have hy : ∀ k h' b, k ≠ key → Lh k = some h' → (hdrV h').ownBlock = some b → (hdrV h1).ownBlock ≠ some b := fun k h' b hk hq hb he => by
    rcases hat with hat | ⟨b1, hb1, hl⟩
    · exact hx k h' b hk hq hb (by rw [← he, hat])
    · rw [he] at hb1
      injection hb1 with hb1
      have := Kd.R_lt (h.row k h' hq) b hb
      omega
  refine ⟨fun k h' hk => ?_, fun k hk => ?_, fun k k' h' h'' b hk hk' hb hb' => ?_⟩
  · by_cases hkk : k = key
    · subst hkk
      rw [if_pos rfl] at hk
      cases hk
      show wrK.R _ w1 0 _ (hdrV h1) (if k = k then G k ++ [e] else G k)
      rw [if_pos rfl]
      exact Kd.R_mono (Kd.R_bound hR1) (fun b hb => hb.1.elim .inl (fun h => .inr ⟨h, hb.2.2.1⟩))
    · rw [if_neg hkk] at hk
      show wrK.R _ w1 0 _ (hdrV h') (if k = key then G key ++ [e] else G k)
      rw [if_neg hkk]
      have h0 := h.row k h' hk
      exact Kd.R_mono (Kd.R_step (wr_own h0) (fun b hb hl => hg.block b hl (hx k h' b hkk hk hb))) (fun b hb => .inl (h0.1 b hb))
  · by_cases hkk : k = key
    · rw [if_pos hkk] at hk
      cases hk
    · rw [if_neg hkk] at hk
      show (if k = key then G key ++ [e] else G k) = []
      rw [if_neg hkk]
      exact h.none_ k hk
  · by_cases hkk : k = key <;> by_cases hkk' : k' = key
    · rw [hkk, hkk']
    · rw [if_pos hkk] at hk
      rw [if_neg hkk'] at hk'
      cases hk
      exact absurd hb (hy k' h'' b hkk' hk' hb')
    · rw [if_neg hkk] at hk
      rw [if_pos hkk'] at hk'
      cases hk'
      exact absurd hb' (hy k h' b hkk hk hb)
    · rw [if_neg hkk] at hk
      rw [if_neg hkk'] at hk'
      exact h.apart k k' h' h'' b hk hk' hb hb'
theorem logOf_put {H : List HE} {e : HE} (h : cmdOk e.2.2 ∧ e.2.2.1 ≠ 1) : logOf (H ++ [e]) = fun x => if x = e.2.2.2.1 then logOf H e.2.2.2.1 ++ [(e.1, e.2.1)] else logOf H x := by
  funext x
  by_cases hx : x = e.2.2.2.1
  · rw [if_pos hx, hx, logOf_yes ⟨rfl, h.1, h.2⟩]
  · rw [if_neg hx, logOf_no fun hw => hx hw.1.symm]
theorem logOf_same {H : List HE} {e : HE} (h : ¬ (cmdOk e.2.2 ∧ e.2.2.1 ≠ 1)) : logOf (H ++ [e]) = logOf H := by
  funext x
  exact logOf_no fun hw => h ⟨hw.2.1, hw.2.2⟩
theorem cellOf_put {H : List HE} {e : HE} {F : ByteArray → Option CellD} (hF : ∀ k, (F k).getD (false, 0) = cellOf H k) {u : CellD} (hu : u = (doC (cellOf H e.2.2.2.1) e.2.2).1) :
    ∀ k, ((if k = e.2.2.2.1 then some u else F k) : Option CellD).getD (false, 0) = cellOf (H ++ [e]) k := fun k => by
  rw [cellOf_snoc]
  unfold cellStep
  by_cases hk : k = e.2.2.2.1
  · subst hk
    rw [if_pos rfl, cdec_true rfl, hu]
    rfl
  · rw [if_neg hk, cdec_false fun h => hk h.symm, hF]
    rfl
theorem logOf_len (H : List HE) (key : ByteArray) : (logOf H key).length ≤ H.length := by
  unfold logOf
  rw [List.length_map]
  exact List.length_filter_le _ _
theorem tagN_len (id : Int × Int) (L : List Cmd) (k : Nat) : (tagN id L k).length = k := by unfold tagN; rw [List.length_map, List.length_range]
end Go.Proofs.Ytepfhcimmbkilaa
/- Vaults: Get, Log, Count. -/
namespace Go.Proofs.Ytepfhcimmbkilaa
open Go.RowKit
open Go.Proofs.YtepfhcimmbkilaaW.PrintWords

theorem zero_cell' (w : World) : (zeroValue 53).run Try.prog w = .ok (cellV (false, 0)) w := by kernel_rfl
theorem zero_wrs' (w : World) : (zeroValue 57).run Try.prog w = .ok (.slice none 0 0) w := by kernel_rfl
theorem VaultAt.look {w : World} {S : Nat → Prop} {g mc ml : Nat} {F : ByteArray → Option CellD} {Lh : ByteArray → Option Hdr} {H : List HE} {n : Nat} (h : VaultAt w S g mc ml F Lh H n) {key : ByteArray} (hk : key.size ≤ maxLen) :
    (Instr.lookup 59 (.map (some mc)) (.string key) false).run Try.prog w = .ok (cellV (cellOf H key)) w := by
  have := h.cells.lookup (t := 59) (et := 53) Try.underlying59 (z := cellV (false, 0)) (zero_cell' w) (a := key) hk
  rw [← h.cell]
  cases hq : F key <;> rw [hq] at this <;> exact this
theorem VaultAt.lookL {w : World} {S : Nat → Prop} {g mc ml : Nat} {F : ByteArray → Option CellD} {Lh : ByteArray → Option Hdr} {H : List HE} {n : Nat} (h : VaultAt w S g mc ml F Lh H n) {key : ByteArray} (hk : key.size ≤ maxLen) :
    ∃ A c, (Instr.lookup 60 (.map (some ml)) (.string key) false).run Try.prog w = .ok (.slice A (logOf H key).length c) w ∧ wrK.R 67 w 0 S (.slice A (logOf H key).length c) (logOf H key) := by
  have h0 := h.logs.lookup (t := 60) (et := 57) Try.underlying60 (z := .slice none 0 0) (zero_wrs' w) (a := key) hk
  have hR : wrK.R 67 w 0 S ((Lh key).elim (.slice none 0 0) hdrV) (logOf H key) := by
    cases hq : Lh key with
    | none => rw [h.log.none_ _ hq]; exact Kd.R_nil _ _ _ _ _
    | some h0 => exact h.log.row _ _ hq
  obtain ⟨A, c, he⟩ := Kd.R_slice hR
  rw [he] at h0 hR
  exact ⟨A, c, h0, hR⟩
theorem vault_get (g n : Nat) (S : Nat → Prop) (H : List HE) (key : ByteArray) (w : World) (h : VaultRep w S g H n) (hk : key.size ≤ maxLen) :
    Calls Try.prog 19 #[.pointer (some ⟨g, 0, none⟩), .string key] w fun r w' => r = .returned (cellV (cellOf H key)) ∧ Fr (fun _ => False) w w' := by
  obtain ⟨mc, ml, F, Lh, hV⟩ := h
  have hF := (Fr.refl (fun _ => False) w).alloc (.cells #[.bool false, .float .f64 0] 53)
  have hB := Blk.new w 53 #[.bool false, .float .f64 0]
  have hV1 := hV.fr hF (fun _ _ h => h)
  have hlk := hV1.look hk
  have v0 := hV1.blk.cell 0
  simp only [List.getElem?_toArray, List.getElem?_cons_zero, List.getElem?_cons_succ] at v0
  have HB := Lib.hid hB
  obtain ⟨c, hc⟩ : ∃ c, c = cellOf H key := ⟨_, rfl⟩
  rw [← hc] at hlk ⊢
  have HC := Lib.hid hc
  clear hB hV hV1 hc
  go_enter Try.func19, Try.ntmps19
  go_wp2_with fail
  trace_state
  exact bodyPost_ret (results_cell_row Try.results19 _ _ w.heap.size _ _ _ _ rfl (Blk.new w 53 #[.bool c.1, .float .f64 c.2]) Try.underlying53 rfl (by kernel_rfl)) rfl ⟨rfl, (Fr.refl (fun _ => False) w).alloc _⟩
theorem vault_log (g n : Nat) (S : Nat → Prop) (H : List HE) (key : ByteArray) (w : World) (h : VaultRep w S g H n) (hk : key.size ≤ maxLen) (hHl : H.length ≤ 1000000000) :
    Calls Try.prog 20 #[.pointer (some ⟨g, 0, none⟩), .string key] w fun r w' => ∃ v, r = .returned v ∧ wrK.R 67 w' w.heap.size (fun b => w.heap.size ≤ b) v (logOf H key) ∧ Fr (fun _ => False) w w' := by
  obtain ⟨mc, ml, F, Lh, hV⟩ := h
  have hF := (Fr.refl (fun _ => False) w).alloc (.cells #[] 67)
  have hV1 := hV.fr hF (fun _ _ h => h)
  obtain ⟨A, c, hlk, hR⟩ := hV1.lookL hk
  have v1 := hV1.blk.cell 1
  simp only [List.getElem?_toArray, List.getElem?_cons_zero, List.getElem?_cons_succ] at v1
  have hC := (Kd.R_reads' hR).2.2
  have hll := logOf_len H key
  obtain ⟨A1, c1, w1, hr, hR1, hg1⟩ := app_flat (P := Try.prog) wrFlat (xs := logOf H key) (n := (logOf H key).length) (c := c) (A := A) 57 57 _ 24 Try.underlying57 info_wr rfl (by decide) (by decide) (R_empty wrK 67 w) hC (fun k hk => by simp only [World.size_alloc] at hk; omega) (by simp) (by omega)
  have HF1 := Lib.hid (hF.trans' (Fr.of_grown hg1) (fun i hi h => by simp [Value.ownBlock] at h; omega))
  have HR1 := Lib.hid hR1
  have hr' := bi_append hr
  clear hC hR hV hV1 hg1 hR1 hF hr
  go_enter Try.func20, Try.ntmps20
  go_wp2_with (at_builtin; refine wpl_builtin2 rfl rfl rfl rfl hr' ?_)
  go_ret
  exact ⟨_, rfl, HR1.out, HF1.out⟩
end Go.Proofs.Ytepfhcimmbkilaa
