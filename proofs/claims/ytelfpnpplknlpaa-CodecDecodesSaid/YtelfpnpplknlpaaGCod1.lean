/- Texts of Cod, merged (1 of 27): Base, Bytes, WireP, WireW. -/
import Derived.Test.YtelfpnpplknlpaaRows
import Derived.WalkKit
import Derived.WalkSpells
import Derived.WalkLawsBesides
import Derived.Deep.Draws
import Derived.Lib.Hide
import Derived.Test.YtelfpnpplknlpaaWWords
set_option linter.unusedVariables false
set_option linter.unusedSimpArgs false
/- Words and lemmas about memory that the walks use: which old blocks a call may have changed, and what a block holds. No program in sight. -/
namespace Go.Proofs.Ytelfpnpplknlpaa
open Go.RowKit

theorem ret_bool {a b : Bool} (h : a = b) : Ending.returned (.bool a) = .returned (.bool b) := by rw [h]
theorem ret_int {k : IntKind} {a b : Int} (h : a = b) : Ending.returned (.int k a) = .returned (.int k b) := by rw [h]

/-- Of the blocks that were there only those of S may have changed. -/
structure Fr (S : Nat → Prop) (w w' : World) : Prop where
  os : w'.os = w.os
  tape : w'.tape = w.tape
  output : w'.output = w.output
  size : w.heap.size ≤ w'.heap.size
  block : ∀ k, k < w.heap.size → ¬ S k → w'.heap[k]? = w.heap[k]?

namespace Fr
variable {S S' : Nat → Prop} {a b c w w' : World}
theorem refl (S : Nat → Prop) (w : World) : Fr S w w := ⟨rfl, rfl, rfl, Nat.le_refl _, fun _ _ _ => rfl⟩
theorem trans' (h : Fr S a b) (k : Fr S' b c) (hs : ∀ i, i < a.heap.size → S' i → S i) : Fr S a c :=
  ⟨k.os.trans h.os, k.tape.trans h.tape, k.output.trans h.output, Nat.le_trans h.size k.size,
    fun i hi hn => (k.block i (Nat.lt_of_lt_of_le hi h.size) (fun hk => hn (hs i hi hk))).trans (h.block i hi hn)⟩
theorem trans (h : Fr S a b) (k : Fr S b c) : Fr S a c := h.trans' k (fun _ _ h => h)
theorem mono (h : Fr S a b) (hs : ∀ i, i < a.heap.size → S i → S' i) : Fr S' a b :=
  ⟨h.os, h.tape, h.output, h.size, fun i hi hn => h.block i hi (fun hk => hn (hs i hi hk))⟩
theorem drew (h : Fr S a b) : Fr S a b.drew := ⟨h.os, h.tape, h.output, h.size, h.block⟩
theorem drewN (h : Fr S a b) (n : Nat) : Fr S a (b.drewN n) := ⟨h.os, h.tape, h.output, h.size, h.block⟩
theorem alloc (h : Fr S a b) (o : Obj) : Fr S a (b.alloc o) :=
  h.trans' (S' := fun _ => False) ⟨rfl, rfl, rfl, by simp, fun k hk _ => Below.heap_alloc _ _ _ hk⟩ (fun _ _ h => h.elim)
theorem setCell (h : Fr S a b) {p : Addr} (hp : S p.block ∨ a.heap.size ≤ p.block) (u : Value) : Fr S a (b.setCell p u) :=
  h.trans' (S' := fun k => k = p.block) ⟨rfl, rfl, rfl, by simp [World.setCell], fun k _ hn => Below.heap_setCell _ _ _ _ hn⟩
    (fun i hi he => by subst he; rcases hp with hp | hp; exact hp; omega)
theorem of_below (h : Below w.heap.size w w') : Fr S w w' := ⟨h.os, h.tape, h.output, h.size, fun k hk _ => h.block k hk⟩
theorem of_grown {row : Option Nat} (h : w.grownBy w' row) : Fr (fun k => some k = row) w w' := ⟨h.os, h.tape, h.output, h.size, fun k hk hn => h.block k hk hn⟩
theorem below (h : Fr S w w') (hs : ∀ i, i < w.heap.size → ¬ S i) : Below w.heap.size w w' := ⟨h.os, h.tape, h.output, h.size, fun k hk => h.block k hk (hs k hk)⟩
theorem grown {g : Nat} (h : Fr (fun k => k = g) w w') : w.grownBy w' (some g) := ⟨h.os, h.tape, h.output, h.size, fun k hk hn => h.block k hk (fun e => hn (by rw [e]))⟩
theorem get (h : Fr S w w') {g : Nat} {o : Obj} (hg : w.heap[g]? = some o) (hn : ¬ S g) : w'.heap[g]? = some o :=
  (h.block g (Array.getElem?_eq_some_iff.1 hg).1 hn).trans hg
theorem cell (h : Fr S w w') {p : Addr} {v : Value} (hc : w.cell? p = some v) (hn : ¬ S p.block) : w'.cell? p = some v :=
  (World.cell?_of_block (h.block p.block (World.block_lt_of_cell? w p hc) hn)).trans hc
theorem set1 {g : Nat} (h : Fr (· = g) a b) (i : Nat) (u : Value) : Fr (· = g) a (b.setCell ⟨g, i, none⟩ u) := h.setCell (p := ⟨g, i, none⟩) (.inl rfl) u
end Fr

/-- Block g is just the cells cs of type t, none frozen. -/
def Blk (w : World) (g : Nat) (t : TypeId) (cs : Array Value) : Prop := w.heap[g]? = some (.cells cs t (0, 0))
namespace Blk
variable {w w' : World} {g : Nat} {t : TypeId} {cs : Array Value} {S : Nat → Prop}
theorem lt (h : Blk w g t cs) : g < w.heap.size := (Array.getElem?_eq_some_iff.1 h).1
theorem cell (h : Blk w g t cs) (i : Nat) : w.cell? ⟨g, i, none⟩ = cs[i]? := cell_of_row w g i cs t (0, 0) h
theorem frozen (h : Blk w g t cs) (i : Nat) : w.frozen? ⟨g, i, none⟩ = false := by
  unfold Blk at h
  simp [World.frozen?, h]
theorem new (w : World) (t : TypeId) (cs : Array Value) : Blk (w.alloc (.cells cs t)) w.heap.size t cs := heap_alloc_new w _
theorem drew (h : Blk w g t cs) : Blk w.drew g t cs := h
theorem drewN (h : Blk w g t cs) (n : Nat) : Blk (w.drewN n) g t cs := h
theorem alloc (h : Blk w g t cs) (o : Obj) : Blk (w.alloc o) g t cs := (Below.heap_alloc w o g h.lt).trans h
theorem set_ (h : Blk w g t cs) (i : Nat) (u : Value) : Blk (w.setCell ⟨g, i, none⟩ u) g t (cs.setIfInBounds i u) := by
  unfold Blk at h ⊢
  simp [World.setCell, Array.getElem?_modify, h]
theorem far (h : Blk w g t cs) {p : Addr} (hp : g ≠ p.block) (u : Value) : Blk (w.setCell p u) g t cs := (Below.heap_setCell w p u g hp).trans h
theorem fr (h : Blk w g t cs) (hb : Fr S w w') (hn : ¬ S g) : Blk w' g t cs := hb.get h hn
theorem ne_ {g' : Nat} {t' : TypeId} {cs' : Array Value} (h : Blk w g t cs) (h' : Blk w g' t' cs') (hne : t ≠ t') : g ≠ g' := by
  rintro rfl
  unfold Blk at h h'
  rw [h] at h'
  injection h' with h'
  injection h' with _ ht
  exact hne ht
end Blk

end Go.Proofs.Ytelfpnpplknlpaa
/- Slices of bytes: read, owned, appended to. -/
namespace Go.Proofs.Ytelfpnpplknlpaa
open Go.RowKit
open Go.Proofs.YtelfpnpplknlpaaW.PrintWords

/-- The slice (any capacity) reads as these bytes. -/
abbrev RdB (w : World) (A : Option Addr) (xs : List Int) : Prop := ReadsInt w .u8 A xs.length xs
/-- The value is a slice of the call's own (a block from B on) with these bytes. -/
def OwB (w : World) (B : Nat) (v : Value) (xs : List Int) : Prop := w.ownsRow B 5 1 v xs.length (nums .u8 xs)
/-- Only rows of bytes from block B on may have changed. -/
def Rows8 (B : Nat) (w : World) (k : Nat) : Prop := B ≤ k ∧ ∃ cs, w.heap[k]? = some (.cells cs 5 (0, 0))

theorem info8 : (Try.prog.info? 5).map (fun i => (i.zero, i.size, i.bytes)) = some (some (.int .u8 0), 1, 1) := by kernel_rfl

theorem OwB.nil (w : World) (B : Nat) : OwB w B (.slice none 0 0) [] := own_nil w B _ 1
theorem OwB.reads {w : World} {B : Nat} {v : Value} {xs : List Int} (h : OwB w B v xs) : ∃ A c, v = .slice A xs.length c ∧ RdB w A xs := own_reads h
theorem OwB.fr {w w' : World} {B : Nat} {v : Value} {xs : List Int} {S : Nat → Prop} (h : OwB w B v xs) (hF : Fr S w w') (hS : ∀ k, B ≤ k → k < w.heap.size → ¬ S k) : OwB w' B v xs :=
  own_move h (fun k hk => hF.block k (own_lt h k hk) (hS k (own_base h k hk) (own_lt h k hk)))
theorem OwB.lower {w : World} {B B' : Nat} {v : Value} {xs : List Int} (h : OwB w B v xs) (hb : B' ≤ B) : OwB w B' v xs := own_weaken h hb
theorem RdB.fr {w w' : World} {A : Option Addr} {xs : List Int} {S : Nat → Prop} (h : RdB w A xs) (hF : Fr S w w') (hS : ∀ k, k < w.heap.size → ¬ S k) : RdB w' A xs := h.below (hF.below hS)
theorem RdB.nil (w : World) : RdB w none [] := ⟨rfl, by simp, fun h => absurd h (Nat.lt_irrefl 0)⟩

theorem RdB.at_ {w : World} {A : Option Addr} {xs : List Int} (h : RdB w A xs) {k : Nat} (hk : k < xs.length) : ∃ b off, A = some ⟨b, off, none⟩ ∧ w.cell? ⟨b, off + k, none⟩ = some (.int .u8 (rd xs k)) := by
  obtain ⟨ad, rfl, hc⟩ := h.2.2 (by omega)
  have h0 := hc 0 (by omega)
  have hk' := hc k hk
  obtain ⟨b, off, sp⟩ := ad
  have hs : sp = none := by
    cases sp with
    | none => rfl
    | some q => simp [Addr.add, World.cell?] at h0; split at h0 <;> simp_all
  subst hs
  rw [add_at] at hk'
  exact ⟨b, off, rfl, hk'⟩

theorem OwB.cap {w : World} {B n c : Nat} {A : Option Addr} {xs : List Int} (h : OwB w B (.slice A n c) xs) : xs.length ≤ c := by
  rcases h.2 with ⟨h1, h2⟩ | ⟨g, cap, cur, h1, _, _, h2, _⟩
  · injection h1 with _ _ h3
    omega
  · injection h1 with _ _ h3
    omega
theorem rows_row {w : World} {B : Nat} {v : Value} {xs : List Int} (h : OwB w B v xs) : ∀ k, some k = v.ownBlock → Rows8 B w k := by
  intro k hk
  exact ⟨own_base h k hk.symm, own_typed h k hk.symm⟩

/-- b[:len(b):len(b)] -/
theorem run_room (A : Option Addr) (n c : Nat) (hc : n ≤ c) (w : World) :
    (Instr.slice 22 (.slice A n c) none (some (.int .i64 n)) (some (.int .i64 n))).run Try.prog w = .ok (.slice A n n) w := by
  have ht := Try.underlying22
  obtain ⟨i0, hi, _, hs, _⟩ := info_parts info8
  simp only [Instr.slice, Sem.run_bind, run_underlying ht, Result.andThen_ok]
  simp [Instr.sliceBounds, Instr.sliceBound, asIntOf, hc, sizeOf, typeInfo, hi]
  cases A <;> simp [Addr.add]

/-- b[lo:hi], b[:hi], b[lo:], each under a name of its own. -/
theorem cut_mid8 (A : Option Addr) (c : Nat) (xs : List Int) (lo hi : Nat) (h1 : lo ≤ hi) (h2 : hi ≤ xs.length) (hc : xs.length ≤ c) :
    ∃ (A' : Option Addr) (ys : List Int), (∀ W : World, (Instr.slice 22 (.slice A xs.length c) (some (.int .i64 lo)) (some (.int .i64 hi)) none).run Try.prog W = .ok (.slice A' ys.length (c - lo)) W) ∧
      Hid (ys = (xs.take hi).drop lo ∧ ys.length ≤ c - lo ∧ ∀ w, RdB w A xs → RdB w A' ys) := by
  obtain ⟨i0, hi0, _, hs, _⟩ := info_parts info8
  obtain ⟨A', h3, h4, h5⟩ := print_mid_of (Value.int .u8) 0 22 5 .i64 .i64 Try.underlying22 hi0 hs A c xs (lo : Int) (hi : Int) (by omega) (by omega) (by omega) hc
  simp only [Int.toNat_natCast] at h3 h4 h5
  exact ⟨A', _, h3, rfl, h5, h4⟩
theorem cut_to8 (A : Option Addr) (c : Nat) (xs : List Int) (hi : Nat) (h2 : hi ≤ xs.length) (hc : xs.length ≤ c) :
    ∃ (ys : List Int), (∀ W : World, (Instr.slice 22 (.slice A xs.length c) none (some (.int .i64 hi)) none).run Try.prog W = .ok (.slice A ys.length c) W) ∧
      Hid (ys = xs.take hi ∧ ys.length = hi ∧ ∀ w, RdB w A xs → RdB w A ys) := by
  obtain ⟨i0, hi0, _, hs, _⟩ := info_parts info8
  have h3 := cut_to (P := Try.prog) 22 5 .i64 Try.underlying22 hi0 A xs.length c (hi : Int) (by omega) (by omega) hc
  have hl : (xs.take hi).length = hi := by rw [List.length_take]; omega
  refine ⟨xs.take hi, fun W => by rw [hl]; exact h3 W, rfl, hl, fun w h => ⟨rfl, by rw [hl]; have := h.2.1; omega, fun hn => ?_⟩⟩
  obtain ⟨ad, e, hcell⟩ := h.2.2 (by omega)
  refine ⟨ad, e, fun j hj => ?_⟩
  rw [hl] at hj
  have := hcell j (by omega)
  rw [this, List.getD_eq_getElem?_getD, List.getD_eq_getElem?_getD, List.getElem?_take, if_pos hj]
theorem cut_from8 (A : Option Addr) (c : Nat) (xs : List Int) (lo : Nat) (h2 : lo ≤ xs.length) (hc : xs.length ≤ c) :
    ∃ (A' : Option Addr) (ys : List Int), (∀ W : World, (Instr.slice 22 (.slice A xs.length c) (some (.int .i64 lo)) none none).run Try.prog W = .ok (.slice A' ys.length (c - lo)) W) ∧
      Hid (ys = xs.drop lo ∧ ys.length ≤ c - lo ∧ ∀ w, RdB w A xs → RdB w A' ys) := by
  obtain ⟨i0, hi0, _, hs, _⟩ := info_parts info8
  have h3 := cut_from (P := Try.prog) 22 5 .i64 Try.underlying22 hi0 1 hs A xs.length c (lo : Int) (by omega) (by omega)
  simp only [Int.toNat_natCast, Nat.mul_one] at h3
  have hl : (xs.drop lo).length = xs.length - lo := List.length_drop
  refine ⟨_, xs.drop lo, fun W => by rw [hl]; exact h3 W, rfl, by rw [hl]; omega, fun w h => ⟨rfl, by rw [hl]; have := h.2.1; omega, fun hn => ?_⟩⟩
  rw [hl] at hn
  obtain ⟨ad, rfl, hcell⟩ := h.2.2 (by omega)
  rw [if_neg (by omega)]
  refine ⟨ad.add lo, rfl, fun j hj => ?_⟩
  rw [hl] at hj
  rw [add_add]
  have := hcell (lo + j) (by omega)
  rw [this, List.getD_eq_getElem?_getD, List.getD_eq_getElem?_getD, List.getElem?_drop]
theorem conv_str8 {w : World} {A : Option Addr} {c : Nat} {xs : List Int} (h : RdB w A xs) : (convert 22 9 (.slice A xs.length c)).run Try.prog w = .ok (.string (strOfNums xs)) w :=
  string_of_reads Try.underlying22 Try.underlying5 Try.underlying9 h

/-- What append is given: a slice that came in without room, or one of the call's own. -/
def ApB (w : World) (B : Nat) (v : Value) (xs : List Int) : Prop := (∃ A, v = .slice A xs.length xs.length ∧ RdB w A xs) ∨ OwB w B v xs
theorem ApB.form {w : World} {B : Nat} {v : Value} {xs : List Int} (h : ApB w B v xs) : ∃ A c, v = .slice A xs.length c := by
  rcases h with ⟨A, rfl, _⟩ | h
  · exact ⟨A, _, rfl⟩
  · obtain ⟨A, c, rfl, _⟩ := h.reads
    exact ⟨A, c, rfl⟩

section
variable {ops : Array Oper} {rest : List Oper} {o : Oper} {a : Act} {Q : Exit → Act → World → Prop}
theorem append8 {W : World} (B : Nat) (hgd : o.guard = none) (s x : Operand)
    (ho : o.op = .call { callee := .builtin .append, args := #[s, x], argTypes := #[22, 22] })
    (v : Value) (xs : List Int) (y : Int) (hs : a.eval s = v) (hx : a.eval x = .slice (some ⟨W.heap.size, 0, none⟩) 1 1)
    (HO : ApB W B v xs) (hbase : B ≤ W.heap.size) (hl : xs.length + 1 ≤ 140737488355328)
    (h : ∀ v1 w1, OwB w1 B v1 (xs ++ [y]) → Fr (Rows8 B W) W w1 → wpList Try.prog ops Q rest (a.put o.dst v1) w1) :
    wpList Try.prog ops Q (o :: rest) a (W.alloc (.cells #[.int .u8 y] 5)) := by
  rcases HO with ⟨A, rfl, hr⟩ | HO
  · obtain ⟨i0, hi, hz0, hs0, hb0⟩ := info_parts info8
    refine wpList_append_grows (W.alloc (.cells #[.int .u8 y] 5)) hgd s x _ ho _ i0 (.int .u8 0) 1 1 Try.underlying22 hi hz0 hs0 hb0 rfl (by omega) A xs.length xs.length (nums .u8 xs) hs ?_ (by rw [nums_length, Nat.mul_one]) ?_
      ⟨W.heap.size, 0, none⟩ 1 1 [.int .u8 y] hx rfl ?_ ?_ (by omega) (by simp only [maxLen]; omega) (by omega) ?_
    · rintro rfl
      rcases Nat.eq_zero_or_pos xs.length with h0 | h0
      · exact ⟨h0, h0⟩
      · obtain ⟨ad, h', _⟩ := hr.2.2 h0
        cases h'
    · rintro b rfl j u hu
      have hj : j < xs.length := by
        have := (List.getElem?_eq_some_iff.1 hu).1
        rwa [nums_length] at this
      obtain ⟨ad, h', hc⟩ := hr.2.2 (by omega)
      obtain rfl := Option.some.inj h'
      have hc1 := hc j hj
      have hu' : u = .int .u8 (xs.getD j 0) := by
        simp [nums, List.getElem?_eq_getElem hj] at hu
        rw [← hu, List.getD_eq_getElem?_getD, List.getElem?_eq_getElem hj]
        rfl
      rw [hu']
      exact pw_cell_below (below_alloc (Below.refl _ _) _) hc1
    · exact World.news_of_block (cs := #[.int .u8 y]) (t := 5) (fr := (0, 0)) (heap_alloc_new W _)
    · intro u hu
      simp at hu
      subst hu
      rfl
    · intro v1 w1 hown hg
      refine h v1 w1 ?_ ?_
      · have hle : B ≤ (W.alloc (.cells #[.int .u8 y] 5)).heap.size := by rw [World.size_alloc]; omega
        have h1 := own_weaken hown hle
        have e1 : nums .u8 (xs ++ [y]) = nums .u8 xs ++ [.int .u8 y] := by simp [nums]
        unfold OwB
        rw [e1, List.length_append]
        exact h1
      · exact ((Fr.refl _ _).alloc _).trans' (Fr.of_grown hg) (fun i hi hk => by cases hk)
  · refine print_append_num (w0 := W) B hgd s x _ _ .u8 1 ho Try.underlying22 info8 (by omega) v xs y hs hx HO (Below.refl _ _) hbase (by omega) ?_
    intro v1 w1 hown hb hg hat
    exact h v1 w1 hown ((Fr.of_grown hg).mono (fun i hi hk => rows_row HO i hk))
theorem append8_row {W : World} (B : Nat) (hgd : o.guard = none) (s x : Operand)
    (ho : o.op = .call { callee := .builtin .append, args := #[s, x], argTypes := #[22, 22] })
    (v : Value) (xs ys : List Int) (A : Option Addr) (c : Nat) (hs : a.eval s = v) (hx : a.eval x = .slice A ys.length c)
    (HO : OwB W B v xs) (HR : RdB W A ys) (hbase : B ≤ W.heap.size) (hl : xs.length + ys.length ≤ 140737488355328)
    (h : ∀ v1 w1, OwB w1 B v1 (xs ++ ys) → Fr (Rows8 B W) W w1 → wpList Try.prog ops Q rest (a.put o.dst v1) w1) :
    wpList Try.prog ops Q (o :: rest) a W := by
  refine print_append_row (w0 := W) B hgd s x _ _ .u8 1 ho Try.underlying22 info8 (by omega) v xs ys A _ c hs hx HO HR (Below.refl _ _) hbase (by omega) ?_
  intro v1 w1 hown hb hg hat
  exact h v1 w1 hown ((Fr.of_grown hg).mono (fun i hi hk => rows_row HO i hk))
theorem append8_str {W : World} (B : Nat) (hgd : o.guard = none) (s x : Operand)
    (ho : o.op = .call { callee := .builtin .append, args := #[s, x], argTypes := #[22, 9] })
    (v : Value) (xs : List Int) (y : ByteArray) (hs : a.eval s = v) (hx : a.eval x = .string y)
    (HO : OwB W B v xs) (hbase : B ≤ W.heap.size) (hl : xs.length + y.size ≤ 140737488355328)
    (h : ∀ v1 w1, OwB w1 B v1 (xs ++ bytesOf y) → Fr (Rows8 B W) W w1 → wpList Try.prog ops Q rest (a.put o.dst v1) w1) :
    wpList Try.prog ops Q (o :: rest) a W := by
  refine print_append_str (w0 := W) B hgd s x _ _ _ ho Try.underlying22 Try.underlying9 info8 v xs y hs hx HO (Below.refl _ _) hbase hl ?_
  intro v1 w1 hown hb hg
  exact h v1 w1 hown ((Fr.of_grown hg).mono (fun i hi hk => rows_row HO i hk))
end
end Go.Proofs.Ytelfpnpplknlpaa
/- The bytes of numbers: plain lists. -/
namespace Go.Proofs.Ytelfpnpplknlpaa

/-- A number's bytes, seven bits each, the low ones first. -/
def digs (m : Nat) : List Int := if m < 128 then [(m : Int)] else ((m % 128 + 128 : Nat) : Int) :: digs (m / 128)
termination_by m
decreasing_by omega
theorem digs_small {m : Nat} (h : m < 128) : digs m = [(m : Int)] := by rw [digs, if_pos h]
theorem digs_big {m : Nat} (h : 128 ≤ m) : digs m = ((m % 128 + 128 : Nat) : Int) :: digs (m / 128) := by rw [digs, if_neg (by omega)]
theorem digs_len (k : Nat) : ∀ m, m < 128 ^ (k + 1) → (digs m).length ≤ k + 1 := by
  induction k with
  | zero => intro m h; rw [digs_small (by simpa using h)]; simp
  | succ k ih =>
    intro m h
    rcases Nat.lt_or_ge m 128 with h1 | h1
    · rw [digs_small h1]; simp
    · rw [digs_big h1, List.length_cons]
      have := ih (m / 128) (by rw [Nat.div_lt_iff_lt_mul (by omega)]; rw [Nat.pow_succ] at h; exact h)
      omega
theorem digs_len10 {m : Nat} (h : m < 18446744073709551616) : (digs m).length ≤ 10 := digs_len 9 m (by omega)
theorem digs_pos (m : Nat) : 0 < (digs m).length := by
  rcases Nat.lt_or_ge m 128 with h | h
  · rw [digs_small h]; simp
  · rw [digs_big h]; simp

/-- What bytes begin with: number, bytes taken, error; the i-th byte stands next, n is what was read. -/
def getR : List Int → Nat → Nat → Nat × Nat × Int
  | [], _, _ => (0, 0, 4)
  | c :: r, i, n =>
    if i = 9 ∧ 1 < c then (0, 0, 3)
    else if 128 ≤ c then getR r (i + 1) (n + (c.toNat % 128) * 2 ^ (7 * i))
    else if c = 0 ∧ 0 < i then (0, 0, 3)
    else (n + (c.toNat % 128) * 2 ^ (7 * i), i + 1, 0)
theorem drop_rd {xs : List Int} {k : Nat} (h : k < xs.length) : xs.drop k = Go.Proofs.YtelfpnpplknlpaaW.PrintWords.rd xs k :: xs.drop (k + 1) := by
  rw [List.drop_eq_getElem_cons h]
  simp [Go.Proofs.YtelfpnpplknlpaaW.PrintWords.rd, List.getD_eq_getElem?_getD, List.getElem?_eq_getElem h]
theorem rd_mem {xs : List Int} {k : Nat} (h : k < xs.length) : Go.Proofs.YtelfpnpplknlpaaW.PrintWords.rd xs k ∈ xs := by
  simp [Go.Proofs.YtelfpnpplknlpaaW.PrintWords.rd, List.getD_eq_getElem?_getD, List.getElem?_eq_getElem h]
theorem step_lt0 {n c i : Nat} (hn : n < 2 ^ (7 * i)) (hc : c < 128) : n + c * 2 ^ (7 * i) < 2 ^ (7 * (i + 1)) := by
  have h1 : c * 2 ^ (7 * i) ≤ 127 * 2 ^ (7 * i) := Nat.mul_le_mul_right _ (by omega)
  have h2 : 2 ^ (7 * (i + 1)) = 128 * 2 ^ (7 * i) := by rw [Nat.mul_add, Nat.pow_add, Nat.mul_comm]
  omega
theorem getR_ok : ∀ (l : List Int) (i n m k : Nat), getR l i n = (m, k, 0) → i < k ∧ k ≤ i + l.length
  | [], i, n, m, k, h => by simp [getR] at h
  | c :: r, i, n, m, k, h => by
    simp only [getR] at h
    split at h
    · simp at h
    · split at h
      · have := getR_ok r _ _ _ _ h
        simp only [List.length_cons]
        omega
      · split at h
        · simp at h
        · simp only [Prod.mk.injEq] at h
          simp only [List.length_cons]
          omega
theorem getR_err : ∀ (l : List Int) (i n : Nat), (getR l i n).2.2 ≠ 0 → (getR l i n).1 = 0 ∧ (getR l i n).2.1 = 0
  | [], i, n, h => by simp [getR]
  | c :: r, i, n, h => by
    simp only [getR] at h ⊢
    split
    · simp
    · rename_i h1
      rw [if_neg h1] at h
      split
      · rename_i h2
        rw [if_pos h2] at h
        exact getR_err r _ _ h
      · rename_i h2
        rw [if_neg h2] at h
        split
        · simp
        · rename_i h3
          rw [if_neg h3] at h
          exact absurd rfl h
theorem getR_lt : ∀ (l : List Int) (i n : Nat), i ≤ 9 → n < 2 ^ (7 * i) → (∀ x ∈ l, 0 ≤ x ∧ x ≤ 255) → (getR l i n).1 < 18446744073709551616
  | [], i, n, _, _, _ => by simp [getR]
  | c :: r, i, n, hi, hn, hb => by
    obtain ⟨h0, h1⟩ := hb c (List.mem_cons_self)
    simp only [getR]
    split
    · simp
    · rename_i h2
      have hlt : n + c.toNat % 128 * 2 ^ (7 * i) < 18446744073709551616 := by
        rcases Nat.lt_or_ge i 9 with h9 | h9
        · have h1 := step_lt0 hn (c := c.toNat % 128) (by omega)
          have h2 : 2 ^ (7 * (i + 1)) ≤ 2 ^ 63 := Nat.pow_le_pow_right (by omega) (by omega)
          omega
        · obtain rfl : i = 9 := by omega
          have h1 : c.toNat % 128 * 2 ^ (7 * 9) ≤ 1 * 2 ^ (7 * 9) := Nat.mul_le_mul_right _ (by omega)
          omega
      split
      · rename_i h3
        exact getR_lt r _ _ (by omega) (step_lt0 hn (by omega)) (fun x hx => hb x (List.mem_cons_of_mem _ hx))
      · split
        · simp
        · exact hlt
/-- One more seven bits: no carry. -/
theorem step_lt {n c i : Nat} (hn : n < 2 ^ (7 * i)) (hc : c < 128) : n + c * 2 ^ (7 * i) < 2 ^ (7 * (i + 1)) := by
  have h1 : c * 2 ^ (7 * i) ≤ 127 * 2 ^ (7 * i) := Nat.mul_le_mul_right _ (by omega)
  have h2 : 2 ^ (7 * (i + 1)) = 128 * 2 ^ (7 * i) := by rw [Nat.mul_add, Nat.pow_add, Nat.mul_comm]
  omega
theorem step_or {n c i : Nat} (hn : n < 2 ^ (7 * i)) : n ||| (c * 2 ^ (7 * i)) = n + c * 2 ^ (7 * i) := by
  rw [Nat.mul_comm, Nat.or_comm, Nat.add_comm, ← Nat.two_pow_add_eq_or_of_lt hn]

/-- The number of bytes, the high ones first. -/
def beVal (l : List Int) : Nat := l.foldl (fun n c => n * 256 + c.toNat) 0
theorem beVal_snoc (l : List Int) (c : Int) : beVal (l ++ [c]) = beVal l * 256 + c.toNat := by simp [beVal]
theorem beVal_lt : ∀ (l : List Int), (∀ x ∈ l, 0 ≤ x ∧ x ≤ 255) → beVal l < 256 ^ l.length := by
  have key : ∀ (l : List Int) (n k : Nat), n < 256 ^ k → (∀ x ∈ l, 0 ≤ x ∧ x ≤ 255) → l.foldl (fun n c => n * 256 + c.toNat) n < 256 ^ (k + l.length) := by
    intro l
    induction l with
    | nil => intro n k h _; simpa using h
    | cons c l ih =>
      intro n k h hb
      obtain ⟨h0, h1⟩ := hb c List.mem_cons_self
      have := ih (n * 256 + c.toNat) (k + 1) (by rw [Nat.pow_succ]; omega) (fun x hx => hb x (List.mem_cons_of_mem _ hx))
      simpa [Nat.add_assoc, Nat.add_comm 1] using this
  intro l hb
  have := key l 0 0 (by simp) hb
  simpa [beVal] using this
theorem take_rd {xs : List Int} {k : Nat} (h : k < xs.length) : xs.take (k + 1) = xs.take k ++ [Go.Proofs.YtelfpnpplknlpaaW.PrintWords.rd xs k] := by
  rw [List.take_succ_eq_append_getElem h]
  simp [Go.Proofs.YtelfpnpplknlpaaW.PrintWords.rd, List.getD_eq_getElem?_getD, List.getElem?_eq_getElem h]
/-- The text that bytes begin with. -/
def textR (xs : List Int) (most : Int) : List Int × Nat × Int :=
  if (getR xs 0 0).2.2 ≠ 0 then ([], 0, (getR xs 0 0).2.2)
  else if most < 0 ∨ most < (getR xs 0 0).1 then ([], 0, 18)
  else if xs.length - (getR xs 0 0).2.1 < (getR xs 0 0).1 then ([], 0, 4)
  else ((xs.take ((getR xs 0 0).2.1 + (getR xs 0 0).1)).drop (getR xs 0 0).2.1, (getR xs 0 0).2.1 + (getR xs 0 0).1, 0)
end Go.Proofs.Ytelfpnpplknlpaa
/- The functions of layer 9 (wire), walked. -/
namespace Go.Proofs.Ytelfpnpplknlpaa
open Go.RowKit
open Go.Proofs.YtelfpnpplknlpaaW.PrintWords

theorem wire_room (A : Option Addr) (n c : Nat) (hc : n ≤ c) (w : World) (hm : n ≤ 140737488355328) :
    Calls Try.prog 50 #[.slice A n c] w fun r w' => r = .returned (.slice A n n) ∧ w = w' := by
  have hr := run_room A n c hc
  go_enter Try.func50, Try.ntmps50
  go_wp2
  go_ret
  exact ⟨rfl, rfl⟩

theorem or128' : ∀ x : Fin 256, bits BinOp.or .u8 ((x.1 : Nat) : Int) 128 = ((x.1 % 128 + 128 : Nat) : Int) := by decide +kernel
theorem or128 (q : Nat) : bits BinOp.or .u8 ((q : Int) % 256) 128 = ((q % 128 + 128 : Nat) : Int) := by
  have h := or128' ⟨q % 256, by omega⟩
  rw [show ((q : Int) % 256) = ((q % 256 : Nat) : Int) from by omega, h]
  show ((q % 256 % 128 + 128 : Nat) : Int) = _
  omega
set_option maxRecDepth 100000 in
set_option maxHeartbeats 400000 in
theorem wire_put (A : Option Addr) (xs : List Int) (c m : Nat) (w : World) (hc : xs.length ≤ c) (hr : RdB w A xs) (hl : xs.length ≤ 140737488355300) (hm : m < 18446744073709551616) :
    Calls Try.prog 25 #[.slice A xs.length c, .int .u64 m] w fun r w' => ∃ v, r = .returned v ∧ OwB w' w.heap.size v (xs ++ digs m) ∧ Fr (fun _ => False) w w' := by
  have hdl := digs_len10 hm
  have HM := Lib.hid hm
  clear hm
  go_enter Try.func25, Try.ntmps25
  go_wp2_with fail
  go_step3
  go_wp2_with fail
  refine (wire_room A xs.length c hc w (by omega)).mono ?_
  rintro r w1 ⟨rfl, rfl⟩
  go_wp2_with fail
  go_step3
  go_wp2_with fail
  go_loopw [0, 1] (fun v n wr => ∃ (pre : List Int) (q : Nat), n = .int .u64 q ∧ Hid (q ≤ m ∧ pre ++ digs q = xs ++ digs m ∧ ApB wr w.heap.size v pre ∧ Fr (fun _ => False) w wr)) (fun _ n _ => (intOf n).toNat)
  case atStart => exact ⟨xs, m, rfl, ⟨Nat.le_refl _, rfl, .inl ⟨A, rfl, hr⟩, Fr.refl _ _⟩⟩
  case round =>
    obtain ⟨pre, q, rfl, hrel⟩ := hrel
    obtain ⟨hq, he, HO, G⟩ := hrel.out
    clear hrel
    have hlen : pre.length + (digs q).length ≤ 140737488355328 := by
      have := congrArg List.length he
      rw [List.length_append, List.length_append] at this
      omega
    have HL := Lib.hid hlen
    have HE := Lib.hid he
    have HHO := Lib.hid HO
    clear hlen he
    obtain ⟨A1, c1, rfl⟩ := HO.form
    have hb1 : pre.length + 1 ≤ 140737488355328 := by have := HL.out; have := digs_pos q; omega
    have hb2 := G.size
    clear HO hl hdl hc hr
    rcases Nat.lt_or_ge q 128 with hlt | hge
    · go_wp2_with (at_builtin; go_must (refine append8 w.heap.size rfl _ _ rfl (.slice A1 pre.length c1) pre _ rfl rfl HHO.out hb2 hb1 ?_); intro v1 w1 hown hF)
      rw [Exit.noGoto_ret]
      go_ret
      have he := HE.out
      rw [digs_small hlt] at he
      rw [he] at hown
      exact ⟨_, rfl, hown, G.trans' hF (fun i hi hk => by have := hk.1; omega)⟩
    · go_wp2_with (at_builtin; go_must (refine append8 w.heap.size rfl _ _ rfl (.slice A1 pre.length c1) pre _ rfl rfl HHO.out hb2 hb1 ?_); intro v1 w1 hown hF)
      refine ⟨⟨pre ++ [((q % 128 + 128 : Nat) : Int)], q / 128, rfl, by omega, ?_, ?_, G.trans' hF (fun i hi hk => by have := hk.1; omega)⟩, ?_⟩
      · have he := HE.out
        rw [digs_big hge] at he
        rw [← he, List.append_assoc]
        rfl
      · rw [← or128 q]
        exact .inr hown
      · simp only [intOf]
        omega

theorem u64_of_nat {n : Nat} (h : (n : Int) ≤ 9223372036854775807) : IntKind.u64.wrap (n : Int) = n := by
  simp [IntKind.wrap, IntKind.bits, IntKind.signed]
  omega

set_option maxRecDepth 100000 in
set_option maxHeartbeats 400000 in
theorem wire_putText (A : Option Addr) (xs : List Int) (c : Nat) (s : ByteArray) (w : World) (hc : xs.length ≤ c) (hr : RdB w A xs) (hl : xs.length + s.size ≤ 140737488355300) :
    Calls Try.prog 26 #[.slice A xs.length c, .string s] w fun r w' => ∃ v, r = .returned v ∧ OwB w' w.heap.size v (xs ++ digs s.size ++ bytesOf s) ∧ Fr (fun _ => False) w w' := by
  have hs : (s.size : Int) ≤ 9223372036854775807 := by omega
  have hu := u64_of_nat hs
  go_enter Try.func26, Try.ntmps26
  go_wp2_with fail
  refine (wire_put A xs c s.size w hc hr (by omega) (by omega)).mono ?_
  rintro r w1 ⟨v, rfl, hown, hF⟩
  have hdl := digs_len10 (m := s.size) (by omega)
  have hl2 : (xs ++ digs s.size).length + s.size ≤ 140737488355328 := by rw [List.length_append]; omega
  obtain ⟨ys, hys⟩ : ∃ ys, Hid (xs ++ digs s.size = ys) := ⟨_, rfl⟩
  rw [hys.out] at hown hl2
  obtain ⟨A1, c1, rfl, hr1⟩ := hown.reads
  have hb := hF.size
  clear hl hr hs hu hdl
  go_wp2_with (at_builtin; go_must (refine append8_str w.heap.size rfl _ _ rfl (.slice A1 ys.length c1) ys s rfl rfl hown hb hl2 ?_); intro v1 w2 hown1 hF1)
  go_ret
  rw [hys.out]
  exact ⟨_, rfl, hown1, hF.trans' hF1 (fun i hi hk => by have := hk.1; omega)⟩

/-- Eight bytes of a number from the place sh on, the high ones first. -/
def beTo (m : Nat) : Nat → List Int
  | 0 => []
  | k + 1 => ((m / 256 ^ k % 256 : Nat) : Int) :: beTo m k
def be8 (m : Nat) : List Int := beTo m 8

theorem be_val (m k : Nat) : (m : Int) / 2 ^ (8 * (k + 1) - 8) % 256 = ((m / 256 ^ k % 256 : Nat) : Int) := by
  have e : (2 : Int) ^ (8 * (k + 1) - 8) = ((256 ^ k : Nat) : Int) := by
    rw [show 8 * (k + 1) - 8 = 8 * k from by omega, Int.pow_mul]
    simp
  rw [e]
  rfl
set_option maxRecDepth 100000 in
set_option maxHeartbeats 400000 in
theorem wire_eight (A : Option Addr) (xs : List Int) (c m : Nat) (w : World) (hc : xs.length ≤ c) (hr : RdB w A xs) (hl : xs.length ≤ 140737488355300) (hm : m < 18446744073709551616) :
    Calls Try.prog 28 #[.slice A xs.length c, .int .u64 m] w fun r w' => ∃ v, r = .returned v ∧ OwB w' w.heap.size v (xs ++ be8 m) ∧ Fr (fun _ => False) w w' := by
  have HM := Lib.hid hm
  clear hm
  go_enter Try.func28, Try.ntmps28
  go_wp2_with fail
  refine (wire_room A xs.length c hc w (by omega)).mono ?_
  rintro r w1 ⟨rfl, rfl⟩
  go_wp2_with fail
  go_loopw [0, 5] (fun v i wr => ∃ (k : Nat) (pre : List Int), k ≤ 8 ∧ i = .int .i64 (8 * (k : Int) - 8) ∧ Hid (pre ++ beTo m k = xs ++ be8 m ∧ ApB wr w.heap.size v pre ∧ (k < 8 → OwB wr w.heap.size v pre) ∧ Fr (fun _ => False) w wr)) (fun _ i _ => (intOf i + 8).toNat)
  case atStart => exact ⟨8, xs, by omega, rfl, ⟨rfl, .inl ⟨A, rfl, hr⟩, fun h => by omega, Fr.refl _ _⟩⟩
  case round =>
    obtain ⟨k, pre, hk, rfl, hrel⟩ := hrel
    obtain ⟨he, HO, HO2, G⟩ := hrel.out
    clear hrel
    have hlen : pre.length + (beTo m k).length ≤ 140737488355328 := by
      have := congrArg List.length he
      rw [List.length_append, List.length_append] at this
      have : (be8 m).length = 8 := rfl
      omega
    obtain ⟨A1, c1, rfl⟩ := HO.form
    have HE := Lib.hid he
    have HHO := Lib.hid HO
    have hb2 := G.size
    have HHO2 := Lib.hid HO2
    clear HO HO2 hl hc hr he
    match k, hk, HE, hlen, HHO2 with
    | 0, hk, HE, hlen, HHO2 =>
      go_wp2_with fail
      go_ret
      have he := HE.out
      simp only [beTo, List.append_nil] at he
      subst he
      exact ⟨_, rfl, HHO2.out (by omega), G⟩
    | k + 1, hk, HE, hlen, HHO2 =>
      have hb1 : pre.length + 1 ≤ 140737488355328 := by simp only [beTo, List.length_cons] at hlen; omega
      clear hlen
      go_wp2_with (at_builtin; go_must (refine append8 w.heap.size rfl _ _ rfl (.slice A1 pre.length c1) pre _ rfl rfl HHO.out hb2 hb1 ?_); intro v1 w1 hown hF)
      refine ⟨⟨k, pre ++ [((m / 256 ^ k % 256 : Nat) : Int)], by omega, congrArg _ (by omega), ?_, ?_, ?_, G.trans' hF (fun i hi hk => by have := hk.1; omega)⟩, ?_⟩
      · have he := HE.out
        rw [← he, List.append_assoc]
        rfl
      · rw [← be_val m k]
        exact .inr hown
      · intro _
        rw [← be_val m k]
        exact hown
      · simp only [intOf]
        omega
end Go.Proofs.Ytelfpnpplknlpaa
