/- Slices of bytes: read, owned, appended to. -/
import Derived.Test.YtlpigldogglmcaaBase
import Derived.Test.YtlpigldogglmcaaWWords
set_option linter.unusedVariables false
set_option linter.unusedSimpArgs false
namespace Go.Proofs.Ytlpigldogglmcaa
open Go.RowKit
open Go.Proofs.YtlpigldogglmcaaW.PrintWords

/-- The slice (any capacity) reads as these bytes. -/
abbrev RdB (w : World) (A : Option Addr) (xs : List Int) : Prop := ReadsInt w .u8 A xs.length xs
/-- The value is a slice of the call's own (a block from B on) with these bytes. -/
def OwB (w : World) (B : Nat) (v : Value) (xs : List Int) : Prop := w.ownsRow B 5 1 v xs.length (nums .u8 xs)
/-- Only rows of bytes from block B on may have changed. -/
def Rows8 (B : Nat) (w : World) (k : Nat) : Prop := B ≤ k ∧ ∃ cs, w.heap[k]? = some (.cells cs 5 (0, 0))

theorem info8 : (Try.prog.info? 5).map (fun i => (i.zero, i.size, i.bytes)) = some (some (.int .u8 0), 1, 1) := by kernel_rfl

theorem OwB.nil (w : World) (B : Nat) : OwB w B (.slice none 0 0) [] := own_nil w B _ 1
theorem OwB.reads {w : World} {B : Nat} {v : Value} {xs : List Int} (h : OwB w B v xs) : ∃ A c, v = .slice A xs.length c ∧ RdB w A xs := own_reads h
theorem OwB.fr {w w' : World} {B : Nat} {v : Value} {xs : List Int} {S : Nat → Prop} (h : OwB w B v xs) (hF : Fr S w w') (hS : ∀ k, B ≤ k → k < w.heap.size → ¬ S k) : OwB w' B v xs :=
  own_move h (fun k hk => hF.block k (own_lt h k hk) (hS k (own_base h k hk) (own_lt h k hk)))
theorem OwB.lower {w : World} {B B' : Nat} {v : Value} {xs : List Int} (h : OwB w B v xs) (hb : B' ≤ B) : OwB w B' v xs := own_weaken h hb
theorem RdB.fr {w w' : World} {A : Option Addr} {xs : List Int} {S : Nat → Prop} (h : RdB w A xs) (hF : Fr S w w') (hS : ∀ k, k < w.heap.size → ¬ S k) : RdB w' A xs := h.below (hF.below hS)
theorem RdB.nil (w : World) : RdB w none [] := ⟨rfl, by simp, fun h => absurd h (Nat.lt_irrefl 0)⟩

theorem RdB.at_ {w : World} {A : Option Addr} {xs : List Int} (h : RdB w A xs) {k : Nat} (hk : k < xs.length) : ∃ b off, A = some ⟨b, off, none⟩ ∧ w.cell? ⟨b, off + k, none⟩ = some (.int .u8 (rd xs k)) := by
  obtain ⟨ad, rfl, hc⟩ := h.2.2 (by omega)
  have h0 := hc 0 (by omega)
  have hk' := hc k hk
  obtain ⟨b, off, sp⟩ := ad
  have hs : sp = none := by
    cases sp with
    | none => rfl
    | some q => simp [Addr.add, World.cell?] at h0; split at h0 <;> simp_all
  subst hs
  rw [add_at] at hk'
  exact ⟨b, off, rfl, hk'⟩

theorem OwB.cap {w : World} {B n c : Nat} {A : Option Addr} {xs : List Int} (h : OwB w B (.slice A n c) xs) : xs.length ≤ c := by
  rcases h.2 with ⟨h1, h2⟩ | ⟨g, cap, cur, h1, _, _, h2, _⟩
  · injection h1 with _ _ h3
    omega
  · injection h1 with _ _ h3
    omega
theorem rows_row {w : World} {B : Nat} {v : Value} {xs : List Int} (h : OwB w B v xs) : ∀ k, some k = v.ownBlock → Rows8 B w k := by
  intro k hk
  exact ⟨own_base h k hk.symm, own_typed h k hk.symm⟩

/-- b[:len(b):len(b)] -/
theorem run_room (A : Option Addr) (n c : Nat) (hc : n ≤ c) (w : World) :
    (Instr.slice 39 (.slice A n c) none (some (.int .i64 n)) (some (.int .i64 n))).run Try.prog w = .ok (.slice A n n) w := by
  have ht := Try.underlying39
  obtain ⟨i0, hi, _, hs, _⟩ := info_parts info8
  simp only [Instr.slice, Sem.run_bind, run_underlying ht, Result.andThen_ok]
  simp [Instr.sliceBounds, Instr.sliceBound, asIntOf, hc, sizeOf, typeInfo, hi]
  cases A <;> simp [Addr.add]

/-- b[lo:hi], b[:hi], b[lo:], each under a name of its own. -/
theorem cut_mid8 (A : Option Addr) (c : Nat) (xs : List Int) (lo hi : Nat) (h1 : lo ≤ hi) (h2 : hi ≤ xs.length) (hc : xs.length ≤ c) :
    ∃ (A' : Option Addr) (ys : List Int), (∀ W : World, (Instr.slice 39 (.slice A xs.length c) (some (.int .i64 lo)) (some (.int .i64 hi)) none).run Try.prog W = .ok (.slice A' ys.length (c - lo)) W) ∧
      Hid (ys = (xs.take hi).drop lo ∧ ys.length ≤ c - lo ∧ ∀ w, RdB w A xs → RdB w A' ys) := by
  obtain ⟨i0, hi0, _, hs, _⟩ := info_parts info8
  obtain ⟨A', h3, h4, h5⟩ := print_mid_of (Value.int .u8) 0 39 5 .i64 .i64 Try.underlying39 hi0 hs A c xs (lo : Int) (hi : Int) (by omega) (by omega) (by omega) hc
  simp only [Int.toNat_natCast] at h3 h4 h5
  exact ⟨A', _, h3, rfl, h5, h4⟩
theorem cut_to8 (A : Option Addr) (c : Nat) (xs : List Int) (hi : Nat) (h2 : hi ≤ xs.length) (hc : xs.length ≤ c) :
    ∃ (ys : List Int), (∀ W : World, (Instr.slice 39 (.slice A xs.length c) none (some (.int .i64 hi)) none).run Try.prog W = .ok (.slice A ys.length c) W) ∧
      Hid (ys = xs.take hi ∧ ys.length = hi ∧ ∀ w, RdB w A xs → RdB w A ys) := by
  obtain ⟨i0, hi0, _, hs, _⟩ := info_parts info8
  have h3 := cut_to (P := Try.prog) 39 5 .i64 Try.underlying39 hi0 A xs.length c (hi : Int) (by omega) (by omega) hc
  have hl : (xs.take hi).length = hi := by rw [List.length_take]; omega
  refine ⟨xs.take hi, fun W => by rw [hl]; exact h3 W, rfl, hl, fun w h => ⟨rfl, by rw [hl]; have := h.2.1; omega, fun hn => ?_⟩⟩
  obtain ⟨ad, e, hcell⟩ := h.2.2 (by omega)
  refine ⟨ad, e, fun j hj => ?_⟩
  rw [hl] at hj
  have := hcell j (by omega)
  rw [this, List.getD_eq_getElem?_getD, List.getD_eq_getElem?_getD, List.getElem?_take, if_pos hj]
theorem cut_from8 (A : Option Addr) (c : Nat) (xs : List Int) (lo : Nat) (h2 : lo ≤ xs.length) (hc : xs.length ≤ c) :
    ∃ (A' : Option Addr) (ys : List Int), (∀ W : World, (Instr.slice 39 (.slice A xs.length c) (some (.int .i64 lo)) none none).run Try.prog W = .ok (.slice A' ys.length (c - lo)) W) ∧
      Hid (ys = xs.drop lo ∧ ys.length ≤ c - lo ∧ ∀ w, RdB w A xs → RdB w A' ys) := by
  obtain ⟨i0, hi0, _, hs, _⟩ := info_parts info8
  have h3 := cut_from (P := Try.prog) 39 5 .i64 Try.underlying39 hi0 1 hs A xs.length c (lo : Int) (by omega) (by omega)
  simp only [Int.toNat_natCast, Nat.mul_one] at h3
  have hl : (xs.drop lo).length = xs.length - lo := List.length_drop
  refine ⟨_, xs.drop lo, fun W => by rw [hl]; exact h3 W, rfl, by rw [hl]; omega, fun w h => ⟨rfl, by rw [hl]; have := h.2.1; omega, fun hn => ?_⟩⟩
  rw [hl] at hn
  obtain ⟨ad, rfl, hcell⟩ := h.2.2 (by omega)
  rw [if_neg (by omega)]
  refine ⟨ad.add lo, rfl, fun j hj => ?_⟩
  rw [hl] at hj
  rw [add_add]
  have := hcell (lo + j) (by omega)
  rw [this, List.getD_eq_getElem?_getD, List.getD_eq_getElem?_getD, List.getElem?_drop]
theorem conv_str8 {w : World} {A : Option Addr} {c : Nat} {xs : List Int} (h : RdB w A xs) : (convert 39 9 (.slice A xs.length c)).run Try.prog w = .ok (.string (strOfNums xs)) w :=
  string_of_reads Try.underlying39 Try.underlying5 Try.underlying9 h

/-- What append is given: a slice that came in without room, or one of the call's own. -/
def ApB (w : World) (B : Nat) (v : Value) (xs : List Int) : Prop := (∃ A, v = .slice A xs.length xs.length ∧ RdB w A xs) ∨ OwB w B v xs
theorem ApB.form {w : World} {B : Nat} {v : Value} {xs : List Int} (h : ApB w B v xs) : ∃ A c, v = .slice A xs.length c := by
  rcases h with ⟨A, rfl, _⟩ | h
  · exact ⟨A, _, rfl⟩
  · obtain ⟨A, c, rfl, _⟩ := h.reads
    exact ⟨A, c, rfl⟩

section
variable {ops : Array Oper} {rest : List Oper} {o : Oper} {a : Act} {Q : Exit → Act → World → Prop}
theorem append8 {W : World} (B : Nat) (hgd : o.guard = none) (s x : Operand)
    (ho : o.op = .call { callee := .builtin .append, args := #[s, x], argTypes := #[39, 39] })
    (v : Value) (xs : List Int) (y : Int) (hs : a.eval s = v) (hx : a.eval x = .slice (some ⟨W.heap.size, 0, none⟩) 1 1)
    (HO : ApB W B v xs) (hbase : B ≤ W.heap.size) (hl : xs.length + 1 ≤ 140737488355328)
    (h : ∀ v1 w1, OwB w1 B v1 (xs ++ [y]) → Fr (Rows8 B W) W w1 → wpList Try.prog ops Q rest (a.put o.dst v1) w1) :
    wpList Try.prog ops Q (o :: rest) a (W.alloc (.cells #[.int .u8 y] 5)) := by
  rcases HO with ⟨A, rfl, hr⟩ | HO
  · obtain ⟨i0, hi, hz0, hs0, hb0⟩ := info_parts info8
    refine wpList_append_grows (W.alloc (.cells #[.int .u8 y] 5)) hgd s x _ ho _ i0 (.int .u8 0) 1 1 Try.underlying39 hi hz0 hs0 hb0 rfl (by omega) A xs.length xs.length (nums .u8 xs) hs ?_ (by rw [nums_length, Nat.mul_one]) ?_
      ⟨W.heap.size, 0, none⟩ 1 1 [.int .u8 y] hx rfl ?_ ?_ (by omega) (by simp only [maxLen]; omega) (by omega) ?_
    · rintro rfl
      rcases Nat.eq_zero_or_pos xs.length with h0 | h0
      · exact ⟨h0, h0⟩
      · obtain ⟨ad, h', _⟩ := hr.2.2 h0
        cases h'
    · rintro b rfl j u hu
      have hj : j < xs.length := by
        have := (List.getElem?_eq_some_iff.1 hu).1
        rwa [nums_length] at this
      obtain ⟨ad, h', hc⟩ := hr.2.2 (by omega)
      obtain rfl := Option.some.inj h'
      have hc1 := hc j hj
      have hu' : u = .int .u8 (xs.getD j 0) := by
        simp [nums, List.getElem?_eq_getElem hj] at hu
        rw [← hu, List.getD_eq_getElem?_getD, List.getElem?_eq_getElem hj]
        rfl
      rw [hu']
      exact pw_cell_below (below_alloc (Below.refl _ _) _) hc1
    · exact World.news_of_block (cs := #[.int .u8 y]) (t := 5) (fr := (0, 0)) (heap_alloc_new W _)
    · intro u hu
      simp at hu
      subst hu
      rfl
    · intro v1 w1 hown hg
      refine h v1 w1 ?_ ?_
      · have hle : B ≤ (W.alloc (.cells #[.int .u8 y] 5)).heap.size := by rw [World.size_alloc]; omega
        have h1 := own_weaken hown hle
        have e1 : nums .u8 (xs ++ [y]) = nums .u8 xs ++ [.int .u8 y] := by simp [nums]
        unfold OwB
        rw [e1, List.length_append]
        exact h1
      · exact ((Fr.refl _ _).alloc _).trans' (Fr.of_grown hg) (fun i hi hk => by cases hk)
  · refine print_append_num (w0 := W) B hgd s x _ _ .u8 1 ho Try.underlying39 info8 (by omega) v xs y hs hx HO (Below.refl _ _) hbase (by omega) ?_
    intro v1 w1 hown hb hg hat
    exact h v1 w1 hown ((Fr.of_grown hg).mono (fun i hi hk => rows_row HO i hk))
theorem append8_row {W : World} (B : Nat) (hgd : o.guard = none) (s x : Operand)
    (ho : o.op = .call { callee := .builtin .append, args := #[s, x], argTypes := #[39, 39] })
    (v : Value) (xs ys : List Int) (A : Option Addr) (c : Nat) (hs : a.eval s = v) (hx : a.eval x = .slice A ys.length c)
    (HO : OwB W B v xs) (HR : RdB W A ys) (hbase : B ≤ W.heap.size) (hl : xs.length + ys.length ≤ 140737488355328)
    (h : ∀ v1 w1, OwB w1 B v1 (xs ++ ys) → Fr (Rows8 B W) W w1 → wpList Try.prog ops Q rest (a.put o.dst v1) w1) :
    wpList Try.prog ops Q (o :: rest) a W := by
  refine print_append_row (w0 := W) B hgd s x _ _ .u8 1 ho Try.underlying39 info8 (by omega) v xs ys A _ c hs hx HO HR (Below.refl _ _) hbase (by omega) ?_
  intro v1 w1 hown hb hg hat
  exact h v1 w1 hown ((Fr.of_grown hg).mono (fun i hi hk => rows_row HO i hk))
theorem append8_str {W : World} (B : Nat) (hgd : o.guard = none) (s x : Operand)
    (ho : o.op = .call { callee := .builtin .append, args := #[s, x], argTypes := #[39, 9] })
    (v : Value) (xs : List Int) (y : ByteArray) (hs : a.eval s = v) (hx : a.eval x = .string y)
    (HO : OwB W B v xs) (hbase : B ≤ W.heap.size) (hl : xs.length + y.size ≤ 140737488355328)
    (h : ∀ v1 w1, OwB w1 B v1 (xs ++ bytesOf y) → Fr (Rows8 B W) W w1 → wpList Try.prog ops Q rest (a.put o.dst v1) w1) :
    wpList Try.prog ops Q (o :: rest) a W := by
  refine print_append_str (w0 := W) B hgd s x _ _ _ ho Try.underlying39 Try.underlying9 info8 v xs y hs hx HO (Below.refl _ _) hbase hl ?_
  intro v1 w1 hown hb hg
  exact h v1 w1 hown ((Fr.of_grown hg).mono (fun i hi hk => rows_row HO i hk))
end
end Go.Proofs.Ytlpigldogglmcaa
