/- Texts of VaultApplies, merged (12 of 33): SortS, VaultK, Bytes. -/
import Derived.Test.YtepfhcimmbkilaaGVaultApplies11
import Derived.Test.YtepfhcimmbkilaaShelfS
import Derived.Sort.OwnSorted
import Derived.Test.YtepfhcimmbkilaaGVaultApplies10
import Derived.Test.YtepfhcimmbkilaaGVaultApplies1
import Derived.Test.YtepfhcimmbkilaaWWords
set_option linter.unusedVariables false
set_option linter.unusedSimpArgs false
/- slices.Sort of a row of texts. -/
namespace Go.Proofs.Ytepfhcimmbkilaa
open Go.RowKit Go.Sort
open Go.Proofs.YtepfhcimmbkilaaW.PrintWords

theorem enc_tl (x : ByteArray) : encStr x.toList = .string x := by
  show Value.string ⟨x.toList.toArray⟩ = _
  rw [Lib.toList_data]
theorem tl_map (xs : List ByteArray) : (xs.map ByteArray.toList).map encStr = xs.flatMap strCells := by
  induction xs with
  | nil => rfl
  | cons x xs ih => rw [List.map_cons, List.map_cons, ih, enc_tl]; rfl
def bl (l : List UInt8) : ByteArray := ⟨l.toArray⟩
theorem bl_map (ts : List (List UInt8)) : ts.map encStr = (ts.map bl).flatMap strCells := by
  induction ts with
  | nil => rfl
  | cons x xs ih => rw [List.map_cons, List.map_cons, ih]; rfl
theorem bl_tl (l : List UInt8) : (bl l).toList = l := by rw [Lib.toList_data]; simp [bl]
theorem tl_bl (x : ByteArray) : bl x.toList = x := toList_inj (bl_tl _)
def sortB (xs : List ByteArray) : List ByteArray := ((xs.map ByteArray.toList).mergeSort fun x y => decide (x ≤ y)).map bl
theorem sortB_mem (xs : List ByteArray) (s : ByteArray) : s ∈ sortB xs ↔ s ∈ xs := by
  unfold sortB
  simp only [List.mem_map, List.mem_mergeSort]
  constructor
  · rintro ⟨l, ⟨x, hx, rfl⟩, rfl⟩
    rw [tl_bl]; exact hx
  · intro h
    exact ⟨s.toList, ⟨s, h, rfl⟩, tl_bl s⟩
theorem sortB_len (xs : List ByteArray) : (sortB xs).length = xs.length := by unfold sortB; simp
theorem sortB_rising {xs : List ByteArray} (h : xs.Nodup) : Rising (sortB xs) := by
  unfold sortB Rising
  rw [List.pairwise_map]
  have h1 : ((xs.map ByteArray.toList).mergeSort fun x y => decide (x ≤ y)).Pairwise (fun a b => decide (a ≤ b) = true) :=
    List.pairwise_mergeSort (fun a b c hab hbc => by simp only [decide_eq_true_eq] at *; exact List.le_trans hab hbc) (fun a b => by
      rcases List.le_total a b with h | h <;> simp [h]) _
  have h2 : ((xs.map ByteArray.toList).mergeSort fun x y => decide (x ≤ y)).Nodup :=
    (List.mergeSort_perm _ _).nodup_iff.2 (List.Pairwise.map _ (fun a b hab e => hab (toList_inj e)) h)
  refine (h1.and h2).imp ?_
  rintro a b ⟨hab, hne⟩
  rw [bl_tl, bl_tl]
  rcases List.le_iff_lt_or_eq.1 (of_decide_eq_true hab) with h | h
  · exact h
  · exact absurd h hne
theorem sort_strs {w : World} {base : Nat} {ok : Nat → Prop} {v : Value} {xs : List ByteArray} (hR : strK.R 9 w base ok v xs) (hsz : xs.length < 4611686018427387904) :
    Calls Try.prog 51 #[v] w fun r w' => r = .returned (.tuple #[]) ∧ strK.R 9 w' base ok v (sortB xs) ∧ Fr (fun b => some b = v.ownBlock) w w' := by
  obtain ⟨hok, inner, hown, hr⟩ := hR
  have hi : inner = xs.flatMap strCells := strFlat.of_reps xs inner (hr.imp_ (fun x c h => strFlat.K (strK.K_of_M h)))
  subst hi
  rcases hown.2 with ⟨hnil, h0⟩ | ⟨g, cap, cur, rfl, hbase, hb, h1, h2, h3, h4⟩
  · subst hnil
    have hx : xs = [] := by
      cases xs with
      | nil => rfl
      | cons x xs => simp at h0
    subst hx
    refine (Try.slices_Sort_string_none none 0 w).mono ?_
    rintro r w' ⟨rfl, rfl⟩
    exact ⟨rfl, by rw [show sortB [] = [] from by simp [sortB]]; exact ⟨hok, _, hown, hr⟩, Fr.refl _ _⟩
  · have hl : (xs.map ByteArray.toList).length = xs.length := List.length_map _
    have hH : Holds encStr w g 0 (xs.map ByteArray.toList).toArray := holds_of_block hb (by rw [hl, tl_map]; rw [show xs.length = xs.length * strK.sz from (Nat.mul_one _).symm]; exact h4)
    have hc := Try.slices_Sort_string g 0 cap (xs.map ByteArray.toList) w hH (Array.getElem?_eq_some_iff.1 hb).1 (by rw [hl]; exact hsz)
    rw [hl] at hc
    refine hc.mono ?_
    rintro r w' ⟨rfl, n, os, rfl⟩
    have ho := ownsRow_sorted (w := w) (base := base) (g := g) (cap := cap) (n := n) (e := 9) (os := os) (cur := cur) (ss := xs.map ByteArray.toList) (ts := (xs.map ByteArray.toList).mergeSort fun x y => decide (x ≤ y)) (by simp) hbase hb (by rw [hl]; exact h1) h2 h3
    rw [hl, bl_map] at ho
    refine ⟨rfl, ⟨hok, _, ?_, strFlat.reps (fun x => strFlat.M _ _ _ x) (sortB xs)⟩, ?_⟩
    · rw [sortB_len]; exact ho
    · exact Fr.of_grown (by
        have := grownBy_sorted (w := w) (g := g) (n := n) (os := os) ((xs.map ByteArray.toList).mergeSort fun x y => decide (x ≤ y)).toArray
        simpa [Value.ownBlock] using this)
end Go.Proofs.Ytepfhcimmbkilaa
/- Vault.Keys: the keys that have a number, rising. -/
namespace Go.Proofs.Ytepfhcimmbkilaa
open Go.RowKit
open Go.Proofs.YtepfhcimmbkilaaW.PrintWords

section
variable {P : Program} {ops : Array Oper} {rest : List Oper} {o : Oper} {a : Act} {Q : Exit → Act → World → Prop} {α : Type}
/-- append(v, x) where the box's number is written otherwise. -/
theorem Kd.R_appendN (d : Kd α) {w0 W : World} (nn : Nat) (hnn : W.heap.size = nn) (base : Nat) (hgd : o.guard = none) (s x : Operand) (t e : TypeId) (z : Value) (bytes : Nat)
    (ho : o.op = .call { callee := .builtin .append, args := #[s, x], argTypes := #[t, t] })
    (ht : P.underlying t = some (.slice e)) (hinfo : (P.info? e).map (fun i => (i.zero, i.size, i.bytes)) = some (some z, d.sz, bytes)) (hz : z.cells.size = d.sz) (hs0 : 0 < d.sz) (hb0 : 0 < bytes)
    (v : Value) (xs : List α) (p : α) (cs : List Value) (ok okp : Nat → Prop) (hs : a.eval s = v) (hx : a.eval x = .slice (some ⟨nn, 0, none⟩) 1 1) (hp : d.M W base okp p cs) (hokp : ∀ k, okp k → ok k ∧ some k ≠ v.ownBlock) (hfresh : ∀ k, W.heap.size ≤ k → ok k)
    (HO : d.R e W base ok v xs) (HB : Below base w0 W) (hbase : base ≤ W.heap.size) (hl : (xs.length + 1) * bytes ≤ 140737488355328)
    (h : ∀ v1 w1, d.R e w1 base ok v1 (xs ++ [p]) → Below base w0 w1 → W.grownBy w1 v.ownBlock → (v1.ownBlock = v.ownBlock ∨ ∃ b, v1.ownBlock = some b ∧ W.heap.size ≤ b) → wpList P ops Q rest (a.put o.dst v1) w1) :
    wpList P ops Q (o :: rest) a (W.alloc (.cells cs.toArray e)) := by
  subst hnn
  exact Kd.R_append d base hgd s x t e z bytes ho ht hinfo hz hs0 hb0 v xs p cs ok okp hs hx hp hokp hfresh HO HB hbase hl h
end
theorem nodup_lenV : ∀ (xs ys : List ByteArray), xs.Nodup → (∀ s ∈ xs, s ∈ ys) → xs.length ≤ ys.length := by
  intro xs
  induction xs with
  | nil => intro ys _ _; exact Nat.zero_le _
  | cons x xs ih =>
    intro ys hn hs
    obtain ⟨h1, h2⟩ := List.nodup_cons.1 hn
    have hx := hs x (List.mem_cons_self ..)
    have h3 := ih (ys.filter (fun y => decide (y ≠ x))) h2 (fun s hm => List.mem_filter.2 ⟨hs s (List.mem_cons_of_mem _ hm), decide_eq_true (fun e => h1 (by rw [← e]; exact hm))⟩)
    have h4 : (ys.filter (fun y => decide (y ≠ x))).length < ys.length := List.length_filter_lt_length_iff_exists.2 ⟨x, hx, by simp⟩
    rw [List.length_cons]
    omega
theorem foldl_noV (key : ByteArray) : ∀ (H : List HE) (c : CellD), (∀ e ∈ H, e.2.2.2.1 ≠ key) → H.foldl (cellStep key) c = c := by
  intro H
  induction H with
  | nil => intro c _; rfl
  | cons e H ih =>
    intro c h
    rw [List.foldl_cons, show cellStep key c e = c from by unfold cellStep; rw [cdec_false (h e (List.mem_cons_self ..))]; rfl]
    exact ih c (fun e' he' => h e' (List.mem_cons_of_mem _ he'))
theorem found_in {H : List HE} {key : ByteArray} (h : (cellOf H key).1 = true) : key ∈ H.map (·.2.2.2.1) := Classical.byContradiction fun hn => by
  have : cellOf H key = (false, 0) := foldl_noV key H _ (fun e he hk => hn (List.mem_map.2 ⟨e, he, hk⟩))
  rw [this] at h
  cases h
theorem found_len {H : List HE} {xs : List ByteArray} (h : xs.Nodup) (hx : ∀ s ∈ xs, (cellOf H s).1 = true) : xs.length ≤ H.length := by
  have := nodup_lenV xs (H.map (·.2.2.2.1)) h (fun s hs => found_in (hx s hs))
  rwa [List.length_map] at this
theorem rising_nodup {l : List ByteArray} (h : Rising l) : l.Nodup := by
  unfold List.Nodup
  unfold Rising at h
  exact h.imp (fun {a b} hab e => by subst e; exact List.lt_irrefl _ hab)
/-- The keys that have a number, rising. -/
structure KeysV (H : List HE) (ks : List ByteArray) : Prop where
  rise : Rising ks
  mem : ∀ s, s ∈ ks ↔ (cellOf H s).1 = true
theorem KeysV.len {H : List HE} {ks : List ByteArray} (h : KeysV H ks) : ks.length ≤ H.length := found_len (rising_nodup h.rise) (fun s hs => (h.mem s).1 hs)
theorem KeysV.one {H H' : List HE} {a b : List ByteArray} (h : KeysV H a) (h' : KeysV H' b) (he : ∀ k, cellOf H k = cellOf H' k) : a = b :=
  rising_one a b h.rise h'.rise (fun s => by rw [h.mem, h'.mem, he])
set_option maxRecDepth 100000 in
set_option maxHeartbeats 4000000 in
theorem vault_keys (g n : Nat) (S : Nat → Prop) (H : List HE) (w : World) (h : VaultRep w S g H n) (hHl : H.length ≤ 1000000000) :
    Calls Try.prog 29 #[.pointer (some ⟨g, 0, none⟩)] w fun r w' => ∃ v ks, r = .returned v ∧ strK.R 9 w' w.heap.size (fun b => w.heap.size ≤ b) v ks ∧ KeysV H ks ∧ Fr (fun _ => False) w w' := by
  obtain ⟨mc, ml, F, Lh, hV⟩ := h
  have v0 := hV.blk.cell 0
  simp only [List.getElem?_toArray, List.getElem?_cons_zero, List.getElem?_cons_succ] at v0
  have HCE := Lib.hid hV.cell
  have HMW := Lib.hid hV.cells.lt
  obtain ⟨w0, cnt0, hrange, hit0, hFr0, hsz0⟩ := hV.cells.range (t := 59) rfl
  have HI0 := Lib.hid hit0
  have HG0 := Lib.hid hFr0
  obtain ⟨q, hq⟩ : ∃ q, q = w.heap.size := ⟨_, rfl⟩
  rw [← hq] at hrange HI0
  have HQ := Lib.hid hq
  clear hV hit0 hFr0 hsz0 hq
  go_enter Try.func29, Try.ntmps29
  go_wp2_with fail
  go_loopw [3] (fun u wr => ∃ (xs : List ByteArray) (left : ByteArray → Prop) (cnt : Nat), MapIt strE cellV wr mc q F left cnt ∧ (∀ s, s ∈ xs ↔ (F s).isSome = true ∧ (cellOf H s).1 = true ∧ ¬ left s) ∧ xs.Nodup ∧ strK.R 9 wr w.heap.size (fun b => b ≠ mc ∧ b ≠ q) u xs ∧ Fr (fun _ => False) w wr) (fun _ wr => wr.rangeLeft mc q)
  case atStart => exact ⟨[], _, _, HI0.out, fun s => ⟨fun h => (by cases h), fun h => absurd h.1 h.2.2⟩, List.nodup_nil, Kd.R_nil _ _ _ _ _, HG0.out⟩
  case round =>
    obtain ⟨xs, left, cnt, hit, hxs, hnd, hR, hG⟩ := hrel
    have HG5 := Lib.hid hG
    have HXS := Lib.hid hxs
    have HND := Lib.hid hnd
    have HR := Lib.hid hR
    have HIT := Lib.hid hit
    clear hxs hnd hR hG
    rcases hit.next 0 with ⟨hno, hnext⟩ | ⟨a, c9, w1, cnt1, hok, hla, hfa, hnext, hit1, hlt1, hF1, hsz1, hen⟩
    · have HNO := Lib.hid hno
      clear hit hno
      go_wp2_with fail
      have hln := found_len HND.out (fun s hs => ((HXS.out s).1 hs).2.1)
      refine (sort_strs HR.out (by omega)).mono ?_
      rintro r W2 ⟨rfl, hR2, hF2⟩
      have HR2 := Lib.hid hR2
      have HG2 := Lib.hid (HG5.out.trans' hF2 (fun i hi h => by have := Kd.R_base HR.out i h.symm; omega))
      have HK := Lib.hid (show KeysV H (sortB xs) from ⟨sortB_rising HND.out, fun s => by
        rw [sortB_mem, HXS.out s]
        refine ⟨fun h => h.2.1, fun h => ⟨?_, h, HNO.out s⟩⟩
        have := HCE.out s
        cases hf : F s with
        | none => rw [hf] at this; rw [← this] at h; cases h
        | some c => rfl⟩)
      clear hR2 hF2 hln
      go_wp2_with fail
      go_ret
      exact ⟨_, _, rfl, Kd.R_mono (Kd.R_bound HR2.out) (fun b hb => hb.2.1), HK.out, HG2.out⟩
    · have hce : c9 = cellOf H a := by have := HCE.out a; rw [hfa] at this; exact this
      have HI1 := Lib.hid hit1
      have HG1 := Lib.hid (HG5.out.trans' hF1 (fun i hi h => by have h1 := HQ.out; omega))
      have HLA := Lib.hid hla
      have HFA := Lib.hid hfa
      have HLT := Lib.hid hlt1
      have HR1 := Lib.hid (Kd.R_step HR.out (fun b hb hl => hF1.block b hl hb.2))
      have HLN := Lib.hid (found_len HND.out (fun s hs => ((HXS.out s).1 hs).2.1))
      obtain ⟨f, y⟩ := c9
      have HCA := Lib.hid hce
      clear hit hla hfa hit1 hlt1 hF1 hsz1 hce
      replace hen : (Instr.entry (.pointer (some ⟨q, 0, none⟩))).run Try.prog w1 = .ok (.tuple #[.string a, .agg #[.bool f, .float .f64 y]]) w1 := hen
      replace hnext : (Instr.next (.pointer (some ⟨q, 0, none⟩)) false 0).run Try.prog wr = .ok (.tuple #[.bool true, .string a, .agg #[.bool f, .float .f64 y]]) w1 := hnext
      have HI2 := Lib.hid (HI1.out.fr ((Fr.refl (fun _ => False) w1).alloc (.cells #[.bool f, .float .f64 y] 53)) (fun h => h) (fun h => h))
      have HR2 := Lib.hid (Kd.R_alloc HR1.out (.cells #[.bool f, .float .f64 y] 53))
      have HG2 := Lib.hid (HG1.out.alloc (.cells #[.bool f, .float .f64 y] 53))
      cases f
      · go_wp2_with fail
        go_roundw
        case rel =>
          refine ⟨xs, _, _, HI2.out, fun s => ?_, HND.out, HR2.out, HG2.out⟩
          rw [HXS.out s]
          refine ⟨fun h => ⟨h.1, h.2.1, fun hl => h.2.2 hl.1⟩, fun h => ⟨h.1, h.2.1, fun hl => h.2.2 ⟨hl, fun e => ?_⟩⟩⟩
          subst e
          have h2 := h.2.1
          rw [← HCA.out] at h2
          cases h2
        case measure => rw [HI2.out.left_eq, HIT.out.left_eq]; exact HLT.out
      · go_wp2_with (at_builtin; refine Kd.R_appendN strK (w1.heap.size + 1) (by simp) w.heap.size rfl (.tmp 20) (.tmp 22) 43 9 _ 16 rfl Try.underlying43 info_str rfl (by decide) (by decide) u3 xs a (strCells a) (fun b => b ≠ mc ∧ b ≠ q) (fun _ => False) (by rfl) (by rfl) rfl (fun _ h => h.elim) (fun b hb => by have h1 := HI2.out.lt; have h2 := HQ.out; have h3 := HI2.out.isin.lt; omega) HR2.out (Below.refl _ _) HG2.out.size (by have := HLN.out; omega) ?_; intro v1 w2 hR3 hB2 hg2 hat2; have HR3 := Lib.hid hR3; have HG3 := Lib.hid hg2; clear hR3 hB2 hg2 hat2)
        go_roundw
        case rel =>
          refine ⟨xs ++ [a], _, _, HI2.out.fr (Fr.of_grown HG3.out) (fun h => (HR2.out.1 mc h.symm).1 rfl) (fun h => (HR2.out.1 q h.symm).2 rfl), fun s => ?_, ?_, HR3.out, HG2.out.trans' (Fr.of_grown HG3.out) (fun i hi h => by have := Kd.R_base HR2.out i h.symm; omega)⟩
          · by_cases hs : s = a
            · subst hs
              exact ⟨fun _ => ⟨by rw [HFA.out]; rfl, by rw [← HCA.out], fun h => h.2 rfl⟩, fun _ => by simp⟩
            · constructor
              · intro h
                rcases List.mem_append.1 h with h | h
                · have h' := (HXS.out s).1 h
                  exact ⟨h'.1, h'.2.1, fun hl => h'.2.2 hl.1⟩
                · exact absurd (List.mem_singleton.1 h) hs
              · intro h
                exact List.mem_append_left _ ((HXS.out s).2 ⟨h.1, h.2.1, fun hl => h.2.2 ⟨hl, hs⟩⟩)
          · refine List.nodup_append.2 ⟨HND.out, by simp, fun x hx y hy e => ?_⟩
            rw [List.mem_singleton.1 hy] at e
            rw [e] at hx
            exact ((HXS.out a).1 hx).2.2 HLA.out
        case measure =>
          rw [(HI2.out.fr (Fr.of_grown HG3.out) (fun h => (HR2.out.1 mc h.symm).1 rfl) (fun h => (HR2.out.1 q h.symm).2 rfl)).left_eq, HIT.out.left_eq]; exact HLT.out
end Go.Proofs.Ytepfhcimmbkilaa
/- Slices of bytes: read, owned, appended to. -/
namespace Go.Proofs.Ytepfhcimmbkilaa
open Go.RowKit
open Go.Proofs.YtepfhcimmbkilaaW.PrintWords

/-- The slice (any capacity) reads as these bytes. -/
abbrev RdB (w : World) (A : Option Addr) (xs : List Int) : Prop := ReadsInt w .u8 A xs.length xs
/-- The value is a slice of the call's own (a block from B on) with these bytes. -/
def OwB (w : World) (B : Nat) (v : Value) (xs : List Int) : Prop := w.ownsRow B 5 1 v xs.length (nums .u8 xs)
/-- Only rows of bytes from block B on may have changed. -/
def Rows8 (B : Nat) (w : World) (k : Nat) : Prop := B ≤ k ∧ ∃ cs, w.heap[k]? = some (.cells cs 5 (0, 0))

theorem info8 : (Try.prog.info? 5).map (fun i => (i.zero, i.size, i.bytes)) = some (some (.int .u8 0), 1, 1) := by kernel_rfl

theorem OwB.nil (w : World) (B : Nat) : OwB w B (.slice none 0 0) [] := own_nil w B _ 1
theorem OwB.reads {w : World} {B : Nat} {v : Value} {xs : List Int} (h : OwB w B v xs) : ∃ A c, v = .slice A xs.length c ∧ RdB w A xs := own_reads h
theorem OwB.fr {w w' : World} {B : Nat} {v : Value} {xs : List Int} {S : Nat → Prop} (h : OwB w B v xs) (hF : Fr S w w') (hS : ∀ k, B ≤ k → k < w.heap.size → ¬ S k) : OwB w' B v xs :=
  own_move h (fun k hk => hF.block k (own_lt h k hk) (hS k (own_base h k hk) (own_lt h k hk)))
theorem OwB.lower {w : World} {B B' : Nat} {v : Value} {xs : List Int} (h : OwB w B v xs) (hb : B' ≤ B) : OwB w B' v xs := own_weaken h hb
theorem RdB.fr {w w' : World} {A : Option Addr} {xs : List Int} {S : Nat → Prop} (h : RdB w A xs) (hF : Fr S w w') (hS : ∀ k, k < w.heap.size → ¬ S k) : RdB w' A xs := h.below (hF.below hS)
theorem RdB.nil (w : World) : RdB w none [] := ⟨rfl, by simp, fun h => absurd h (Nat.lt_irrefl 0)⟩

theorem RdB.at_ {w : World} {A : Option Addr} {xs : List Int} (h : RdB w A xs) {k : Nat} (hk : k < xs.length) : ∃ b off, A = some ⟨b, off, none⟩ ∧ w.cell? ⟨b, off + k, none⟩ = some (.int .u8 (rd xs k)) := by
  obtain ⟨ad, rfl, hc⟩ := h.2.2 (by omega)
  have h0 := hc 0 (by omega)
  have hk' := hc k hk
  obtain ⟨b, off, sp⟩ := ad
  have hs : sp = none := by
    cases sp with
    | none => rfl
    | some q => simp [Addr.add, World.cell?] at h0; split at h0 <;> simp_all
  subst hs
  rw [add_at] at hk'
  exact ⟨b, off, rfl, hk'⟩

theorem OwB.cap {w : World} {B n c : Nat} {A : Option Addr} {xs : List Int} (h : OwB w B (.slice A n c) xs) : xs.length ≤ c := by
  rcases h.2 with ⟨h1, h2⟩ | ⟨g, cap, cur, h1, _, _, h2, _⟩
  · injection h1 with _ _ h3
    omega
  · injection h1 with _ _ h3
    omega
theorem rows_row {w : World} {B : Nat} {v : Value} {xs : List Int} (h : OwB w B v xs) : ∀ k, some k = v.ownBlock → Rows8 B w k := by
  intro k hk
  exact ⟨own_base h k hk.symm, own_typed h k hk.symm⟩

/-- b[:len(b):len(b)] -/
theorem run_room (A : Option Addr) (n c : Nat) (hc : n ≤ c) (w : World) :
    (Instr.slice 79 (.slice A n c) none (some (.int .i64 n)) (some (.int .i64 n))).run Try.prog w = .ok (.slice A n n) w := by
  have ht := Try.underlying79
  obtain ⟨i0, hi, _, hs, _⟩ := info_parts info8
  simp only [Instr.slice, Sem.run_bind, run_underlying ht, Result.andThen_ok]
  simp [Instr.sliceBounds, Instr.sliceBound, asIntOf, hc, sizeOf, typeInfo, hi]
  cases A <;> simp [Addr.add]

/-- b[lo:hi], b[:hi], b[lo:], each under a name of its own. -/
theorem cut_mid8 (A : Option Addr) (c : Nat) (xs : List Int) (lo hi : Nat) (h1 : lo ≤ hi) (h2 : hi ≤ xs.length) (hc : xs.length ≤ c) :
    ∃ (A' : Option Addr) (ys : List Int), (∀ W : World, (Instr.slice 79 (.slice A xs.length c) (some (.int .i64 lo)) (some (.int .i64 hi)) none).run Try.prog W = .ok (.slice A' ys.length (c - lo)) W) ∧
      Hid (ys = (xs.take hi).drop lo ∧ ys.length ≤ c - lo ∧ ∀ w, RdB w A xs → RdB w A' ys) := by
  obtain ⟨i0, hi0, _, hs, _⟩ := info_parts info8
  obtain ⟨A', h3, h4, h5⟩ := print_mid_of (Value.int .u8) 0 79 5 .i64 .i64 Try.underlying79 hi0 hs A c xs (lo : Int) (hi : Int) (by omega) (by omega) (by omega) hc
  simp only [Int.toNat_natCast] at h3 h4 h5
  exact ⟨A', _, h3, rfl, h5, h4⟩
theorem cut_to8 (A : Option Addr) (c : Nat) (xs : List Int) (hi : Nat) (h2 : hi ≤ xs.length) (hc : xs.length ≤ c) :
    ∃ (ys : List Int), (∀ W : World, (Instr.slice 79 (.slice A xs.length c) none (some (.int .i64 hi)) none).run Try.prog W = .ok (.slice A ys.length c) W) ∧
      Hid (ys = xs.take hi ∧ ys.length = hi ∧ ∀ w, RdB w A xs → RdB w A ys) := by
  obtain ⟨i0, hi0, _, hs, _⟩ := info_parts info8
  have h3 := cut_to (P := Try.prog) 79 5 .i64 Try.underlying79 hi0 A xs.length c (hi : Int) (by omega) (by omega) hc
  have hl : (xs.take hi).length = hi := by rw [List.length_take]; omega
  refine ⟨xs.take hi, fun W => by rw [hl]; exact h3 W, rfl, hl, fun w h => ⟨rfl, by rw [hl]; have := h.2.1; omega, fun hn => ?_⟩⟩
  obtain ⟨ad, e, hcell⟩ := h.2.2 (by omega)
  refine ⟨ad, e, fun j hj => ?_⟩
  rw [hl] at hj
  have := hcell j (by omega)
  rw [this, List.getD_eq_getElem?_getD, List.getD_eq_getElem?_getD, List.getElem?_take, if_pos hj]
theorem cut_from8 (A : Option Addr) (c : Nat) (xs : List Int) (lo : Nat) (h2 : lo ≤ xs.length) (hc : xs.length ≤ c) :
    ∃ (A' : Option Addr) (ys : List Int), (∀ W : World, (Instr.slice 79 (.slice A xs.length c) (some (.int .i64 lo)) none none).run Try.prog W = .ok (.slice A' ys.length (c - lo)) W) ∧
      Hid (ys = xs.drop lo ∧ ys.length ≤ c - lo ∧ ∀ w, RdB w A xs → RdB w A' ys) := by
  obtain ⟨i0, hi0, _, hs, _⟩ := info_parts info8
  have h3 := cut_from (P := Try.prog) 79 5 .i64 Try.underlying79 hi0 1 hs A xs.length c (lo : Int) (by omega) (by omega)
  simp only [Int.toNat_natCast, Nat.mul_one] at h3
  have hl : (xs.drop lo).length = xs.length - lo := List.length_drop
  refine ⟨_, xs.drop lo, fun W => by rw [hl]; exact h3 W, rfl, by rw [hl]; omega, fun w h => ⟨rfl, by rw [hl]; have := h.2.1; omega, fun hn => ?_⟩⟩
  rw [hl] at hn
  obtain ⟨ad, rfl, hcell⟩ := h.2.2 (by omega)
  rw [if_neg (by omega)]
  refine ⟨ad.add lo, rfl, fun j hj => ?_⟩
  rw [hl] at hj
  rw [add_add]
  have := hcell (lo + j) (by omega)
  rw [this, List.getD_eq_getElem?_getD, List.getD_eq_getElem?_getD, List.getElem?_drop]
theorem conv_str8 {w : World} {A : Option Addr} {c : Nat} {xs : List Int} (h : RdB w A xs) : (convert 79 9 (.slice A xs.length c)).run Try.prog w = .ok (.string (strOfNums xs)) w :=
  string_of_reads Try.underlying79 Try.underlying5 Try.underlying9 h

/-- What append is given: a slice that came in without room, or one of the call's own. -/
def ApB (w : World) (B : Nat) (v : Value) (xs : List Int) : Prop := (∃ A, v = .slice A xs.length xs.length ∧ RdB w A xs) ∨ OwB w B v xs
theorem ApB.form {w : World} {B : Nat} {v : Value} {xs : List Int} (h : ApB w B v xs) : ∃ A c, v = .slice A xs.length c := by
  rcases h with ⟨A, rfl, _⟩ | h
  · exact ⟨A, _, rfl⟩
  · obtain ⟨A, c, rfl, _⟩ := h.reads
    exact ⟨A, c, rfl⟩

section
variable {ops : Array Oper} {rest : List Oper} {o : Oper} {a : Act} {Q : Exit → Act → World → Prop}
theorem append8 {W : World} (B : Nat) (hgd : o.guard = none) (s x : Operand)
    (ho : o.op = .call { callee := .builtin .append, args := #[s, x], argTypes := #[79, 79] })
    (v : Value) (xs : List Int) (y : Int) (hs : a.eval s = v) (hx : a.eval x = .slice (some ⟨W.heap.size, 0, none⟩) 1 1)
    (HO : ApB W B v xs) (hbase : B ≤ W.heap.size) (hl : xs.length + 1 ≤ 140737488355328)
    (h : ∀ v1 w1, OwB w1 B v1 (xs ++ [y]) → Fr (Rows8 B W) W w1 → wpList Try.prog ops Q rest (a.put o.dst v1) w1) :
    wpList Try.prog ops Q (o :: rest) a (W.alloc (.cells #[.int .u8 y] 5)) := by
  rcases HO with ⟨A, rfl, hr⟩ | HO
  · obtain ⟨i0, hi, hz0, hs0, hb0⟩ := info_parts info8
    refine wpList_append_grows (W.alloc (.cells #[.int .u8 y] 5)) hgd s x _ ho _ i0 (.int .u8 0) 1 1 Try.underlying79 hi hz0 hs0 hb0 rfl (by omega) A xs.length xs.length (nums .u8 xs) hs ?_ (by rw [nums_length, Nat.mul_one]) ?_
      ⟨W.heap.size, 0, none⟩ 1 1 [.int .u8 y] hx rfl ?_ ?_ (by omega) (by simp only [maxLen]; omega) (by omega) ?_
    · rintro rfl
      rcases Nat.eq_zero_or_pos xs.length with h0 | h0
      · exact ⟨h0, h0⟩
      · obtain ⟨ad, h', _⟩ := hr.2.2 h0
        cases h'
    · rintro b rfl j u hu
      have hj : j < xs.length := by
        have := (List.getElem?_eq_some_iff.1 hu).1
        rwa [nums_length] at this
      obtain ⟨ad, h', hc⟩ := hr.2.2 (by omega)
      obtain rfl := Option.some.inj h'
      have hc1 := hc j hj
      have hu' : u = .int .u8 (xs.getD j 0) := by
        simp [nums, List.getElem?_eq_getElem hj] at hu
        rw [← hu, List.getD_eq_getElem?_getD, List.getElem?_eq_getElem hj]
        rfl
      rw [hu']
      exact pw_cell_below (below_alloc (Below.refl _ _) _) hc1
    · exact World.news_of_block (cs := #[.int .u8 y]) (t := 5) (fr := (0, 0)) (heap_alloc_new W _)
    · intro u hu
      simp at hu
      subst hu
      rfl
    · intro v1 w1 hown hg
      refine h v1 w1 ?_ ?_
      · have hle : B ≤ (W.alloc (.cells #[.int .u8 y] 5)).heap.size := by rw [World.size_alloc]; omega
        have h1 := own_weaken hown hle
        have e1 : nums .u8 (xs ++ [y]) = nums .u8 xs ++ [.int .u8 y] := by simp [nums]
        unfold OwB
        rw [e1, List.length_append]
        exact h1
      · exact ((Fr.refl _ _).alloc _).trans' (Fr.of_grown hg) (fun i hi hk => by cases hk)
  · refine print_append_num (w0 := W) B hgd s x _ _ .u8 1 ho Try.underlying79 info8 (by omega) v xs y hs hx HO (Below.refl _ _) hbase (by omega) ?_
    intro v1 w1 hown hb hg hat
    exact h v1 w1 hown ((Fr.of_grown hg).mono (fun i hi hk => rows_row HO i hk))
theorem append8_row {W : World} (B : Nat) (hgd : o.guard = none) (s x : Operand)
    (ho : o.op = .call { callee := .builtin .append, args := #[s, x], argTypes := #[79, 79] })
    (v : Value) (xs ys : List Int) (A : Option Addr) (c : Nat) (hs : a.eval s = v) (hx : a.eval x = .slice A ys.length c)
    (HO : OwB W B v xs) (HR : RdB W A ys) (hbase : B ≤ W.heap.size) (hl : xs.length + ys.length ≤ 140737488355328)
    (h : ∀ v1 w1, OwB w1 B v1 (xs ++ ys) → Fr (Rows8 B W) W w1 → wpList Try.prog ops Q rest (a.put o.dst v1) w1) :
    wpList Try.prog ops Q (o :: rest) a W := by
  refine print_append_row (w0 := W) B hgd s x _ _ .u8 1 ho Try.underlying79 info8 (by omega) v xs ys A _ c hs hx HO HR (Below.refl _ _) hbase (by omega) ?_
  intro v1 w1 hown hb hg hat
  exact h v1 w1 hown ((Fr.of_grown hg).mono (fun i hi hk => rows_row HO i hk))
theorem append8_str {W : World} (B : Nat) (hgd : o.guard = none) (s x : Operand)
    (ho : o.op = .call { callee := .builtin .append, args := #[s, x], argTypes := #[79, 9] })
    (v : Value) (xs : List Int) (y : ByteArray) (hs : a.eval s = v) (hx : a.eval x = .string y)
    (HO : OwB W B v xs) (hbase : B ≤ W.heap.size) (hl : xs.length + y.size ≤ 140737488355328)
    (h : ∀ v1 w1, OwB w1 B v1 (xs ++ bytesOf y) → Fr (Rows8 B W) W w1 → wpList Try.prog ops Q rest (a.put o.dst v1) w1) :
    wpList Try.prog ops Q (o :: rest) a W := by
  refine print_append_str (w0 := W) B hgd s x _ _ _ ho Try.underlying79 Try.underlying9 info8 v xs y hs hx HO (Below.refl _ _) hbase hl ?_
  intro v1 w1 hown hb hg
  exact h v1 w1 hown ((Fr.of_grown hg).mono (fun i hi hk => rows_row HO i hk))
end
end Go.Proofs.Ytepfhcimmbkilaa
