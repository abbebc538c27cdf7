/- Texts of VaultSwaps, merged (4 of 8): Bytes, WireP, WireW, WireG, WireR, WireQ, DigW, VaultM, VaultT, VaultW. -/
import Derived.Test.YtepfhcimmbkilaaGVaultSwaps1
import Derived.Test.YtepfhcimmbkilaaWWords
import Derived.Laws.BitsAllLaws
import Derived.Test.YtepfhcimmbkilaaGVaultSwaps3
import Derived.Deep.QuietTactic
import Derived.BigQuiet
set_option linter.unusedVariables false
set_option linter.unusedSimpArgs false
/- Slices of bytes: read, owned, appended to. -/
namespace Go.Proofs.Ytepfhcimmbkilaa
open Go.RowKit
open Go.Proofs.YtepfhcimmbkilaaW.PrintWords

/-- The slice (any capacity) reads as these bytes. -/
abbrev RdB (w : World) (A : Option Addr) (xs : List Int) : Prop := ReadsInt w .u8 A xs.length xs
/-- The value is a slice of the call's own (a block from B on) with these bytes. -/
def OwB (w : World) (B : Nat) (v : Value) (xs : List Int) : Prop := w.ownsRow B 5 1 v xs.length (nums .u8 xs)
/-- Only rows of bytes from block B on may have changed. -/
def Rows8 (B : Nat) (w : World) (k : Nat) : Prop := B ≤ k ∧ ∃ cs, w.heap[k]? = some (.cells cs 5 (0, 0))

theorem info8 : (Try.prog.info? 5).map (fun i => (i.zero, i.size, i.bytes)) = some (some (.int .u8 0), 1, 1) := by kernel_rfl

theorem OwB.nil (w : World) (B : Nat) : OwB w B (.slice none 0 0) [] := own_nil w B _ 1
theorem OwB.reads {w : World} {B : Nat} {v : Value} {xs : List Int} (h : OwB w B v xs) : ∃ A c, v = .slice A xs.length c ∧ RdB w A xs := own_reads h
theorem OwB.fr {w w' : World} {B : Nat} {v : Value} {xs : List Int} {S : Nat → Prop} (h : OwB w B v xs) (hF : Fr S w w') (hS : ∀ k, B ≤ k → k < w.heap.size → ¬ S k) : OwB w' B v xs :=
  own_move h (fun k hk => hF.block k (own_lt h k hk) (hS k (own_base h k hk) (own_lt h k hk)))
theorem OwB.lower {w : World} {B B' : Nat} {v : Value} {xs : List Int} (h : OwB w B v xs) (hb : B' ≤ B) : OwB w B' v xs := own_weaken h hb
theorem RdB.fr {w w' : World} {A : Option Addr} {xs : List Int} {S : Nat → Prop} (h : RdB w A xs) (hF : Fr S w w') (hS : ∀ k, k < w.heap.size → ¬ S k) : RdB w' A xs := h.below (hF.below hS)
theorem RdB.nil (w : World) : RdB w none [] := ⟨rfl, by simp, fun h => absurd h (Nat.lt_irrefl 0)⟩

theorem RdB.at_ {w : World} {A : Option Addr} {xs : List Int} (h : RdB w A xs) {k : Nat} (hk : k < xs.length) : ∃ b off, A = some ⟨b, off, none⟩ ∧ w.cell? ⟨b, off + k, none⟩ = some (.int .u8 (rd xs k)) := by
  obtain ⟨ad, rfl, hc⟩ := h.2.2 (by omega)
  have h0 := hc 0 (by omega)
  have hk' := hc k hk
  obtain ⟨b, off, sp⟩ := ad
  have hs : sp = none := by
    cases sp with
    | none => rfl
    | some q => simp [Addr.add, World.cell?] at h0; split at h0 <;> simp_all
  subst hs
  rw [add_at] at hk'
  exact ⟨b, off, rfl, hk'⟩

theorem OwB.cap {w : World} {B n c : Nat} {A : Option Addr} {xs : List Int} (h : OwB w B (.slice A n c) xs) : xs.length ≤ c := by
  rcases h.2 with ⟨h1, h2⟩ | ⟨g, cap, cur, h1, _, _, h2, _⟩
  · injection h1 with _ _ h3
    omega
  · injection h1 with _ _ h3
    omega
theorem rows_row {w : World} {B : Nat} {v : Value} {xs : List Int} (h : OwB w B v xs) : ∀ k, some k = v.ownBlock → Rows8 B w k := by
  intro k hk
  exact ⟨own_base h k hk.symm, own_typed h k hk.symm⟩

/-- b[:len(b):len(b)] -/
theorem run_room (A : Option Addr) (n c : Nat) (hc : n ≤ c) (w : World) :
    (Instr.slice 79 (.slice A n c) none (some (.int .i64 n)) (some (.int .i64 n))).run Try.prog w = .ok (.slice A n n) w := by
  have ht := Try.underlying79
  obtain ⟨i0, hi, _, hs, _⟩ := info_parts info8
  simp only [Instr.slice, Sem.run_bind, run_underlying ht, Result.andThen_ok]
  simp [Instr.sliceBounds, Instr.sliceBound, asIntOf, hc, sizeOf, typeInfo, hi]
  cases A <;> simp [Addr.add]

/-- b[lo:hi], b[:hi], b[lo:], each under a name of its own. -/
theorem cut_mid8 (A : Option Addr) (c : Nat) (xs : List Int) (lo hi : Nat) (h1 : lo ≤ hi) (h2 : hi ≤ xs.length) (hc : xs.length ≤ c) :
    ∃ (A' : Option Addr) (ys : List Int), (∀ W : World, (Instr.slice 79 (.slice A xs.length c) (some (.int .i64 lo)) (some (.int .i64 hi)) none).run Try.prog W = .ok (.slice A' ys.length (c - lo)) W) ∧
      Hid (ys = (xs.take hi).drop lo ∧ ys.length ≤ c - lo ∧ ∀ w, RdB w A xs → RdB w A' ys) := by
  obtain ⟨i0, hi0, _, hs, _⟩ := info_parts info8
  obtain ⟨A', h3, h4, h5⟩ := print_mid_of (Value.int .u8) 0 79 5 .i64 .i64 Try.underlying79 hi0 hs A c xs (lo : Int) (hi : Int) (by omega) (by omega) (by omega) hc
  simp only [Int.toNat_natCast] at h3 h4 h5
  exact ⟨A', _, h3, rfl, h5, h4⟩
theorem cut_to8 (A : Option Addr) (c : Nat) (xs : List Int) (hi : Nat) (h2 : hi ≤ xs.length) (hc : xs.length ≤ c) :
    ∃ (ys : List Int), (∀ W : World, (Instr.slice 79 (.slice A xs.length c) none (some (.int .i64 hi)) none).run Try.prog W = .ok (.slice A ys.length c) W) ∧
      Hid (ys = xs.take hi ∧ ys.length = hi ∧ ∀ w, RdB w A xs → RdB w A ys) := by
  obtain ⟨i0, hi0, _, hs, _⟩ := info_parts info8
  have h3 := cut_to (P := Try.prog) 79 5 .i64 Try.underlying79 hi0 A xs.length c (hi : Int) (by omega) (by omega) hc
  have hl : (xs.take hi).length = hi := by rw [List.length_take]; omega
  refine ⟨xs.take hi, fun W => by rw [hl]; exact h3 W, rfl, hl, fun w h => ⟨rfl, by rw [hl]; have := h.2.1; omega, fun hn => ?_⟩⟩
  obtain ⟨ad, e, hcell⟩ := h.2.2 (by omega)
  refine ⟨ad, e, fun j hj => ?_⟩
  rw [hl] at hj
  have := hcell j (by omega)
  rw [this, List.getD_eq_getElem?_getD, List.getD_eq_getElem?_getD, List.getElem?_take, if_pos hj]
theorem cut_from8 (A : Option Addr) (c : Nat) (xs : List Int) (lo : Nat) (h2 : lo ≤ xs.length) (hc : xs.length ≤ c) :
    ∃ (A' : Option Addr) (ys : List Int), (∀ W : World, (Instr.slice 79 (.slice A xs.length c) (some (.int .i64 lo)) none none).run Try.prog W = .ok (.slice A' ys.length (c - lo)) W) ∧
      Hid (ys = xs.drop lo ∧ ys.length ≤ c - lo ∧ ∀ w, RdB w A xs → RdB w A' ys) := by
  obtain ⟨i0, hi0, _, hs, _⟩ := info_parts info8
  have h3 := cut_from (P := Try.prog) 79 5 .i64 Try.underlying79 hi0 1 hs A xs.length c (lo : Int) (by omega) (by omega)
  simp only [Int.toNat_natCast, Nat.mul_one] at h3
  have hl : (xs.drop lo).length = xs.length - lo := List.length_drop
  refine ⟨_, xs.drop lo, fun W => by rw [hl]; exact h3 W, rfl, by rw [hl]; omega, fun w h => ⟨rfl, by rw [hl]; have := h.2.1; omega, fun hn => ?_⟩⟩
  rw [hl] at hn
  obtain ⟨ad, rfl, hcell⟩ := h.2.2 (by omega)
  rw [if_neg (by omega)]
  refine ⟨ad.add lo, rfl, fun j hj => ?_⟩
  rw [hl] at hj
  rw [add_add]
  have := hcell (lo + j) (by omega)
  rw [this, List.getD_eq_getElem?_getD, List.getD_eq_getElem?_getD, List.getElem?_drop]
theorem conv_str8 {w : World} {A : Option Addr} {c : Nat} {xs : List Int} (h : RdB w A xs) : (convert 79 9 (.slice A xs.length c)).run Try.prog w = .ok (.string (strOfNums xs)) w :=
  string_of_reads Try.underlying79 Try.underlying5 Try.underlying9 h

/-- What append is given: a slice that came in without room, or one of the call's own. -/
def ApB (w : World) (B : Nat) (v : Value) (xs : List Int) : Prop := (∃ A, v = .slice A xs.length xs.length ∧ RdB w A xs) ∨ OwB w B v xs
theorem ApB.form {w : World} {B : Nat} {v : Value} {xs : List Int} (h : ApB w B v xs) : ∃ A c, v = .slice A xs.length c := by
  rcases h with ⟨A, rfl, _⟩ | h
  · exact ⟨A, _, rfl⟩
  · obtain ⟨A, c, rfl, _⟩ := h.reads
    exact ⟨A, c, rfl⟩

section
variable {ops : Array Oper} {rest : List Oper} {o : Oper} {a : Act} {Q : Exit → Act → World → Prop}
theorem append8 {W : World} (B : Nat) (hgd : o.guard = none) (s x : Operand)
    (ho : o.op = .call { callee := .builtin .append, args := #[s, x], argTypes := #[79, 79] })
    (v : Value) (xs : List Int) (y : Int) (hs : a.eval s = v) (hx : a.eval x = .slice (some ⟨W.heap.size, 0, none⟩) 1 1)
    (HO : ApB W B v xs) (hbase : B ≤ W.heap.size) (hl : xs.length + 1 ≤ 140737488355328)
    (h : ∀ v1 w1, OwB w1 B v1 (xs ++ [y]) → Fr (Rows8 B W) W w1 → wpList Try.prog ops Q rest (a.put o.dst v1) w1) :
    wpList Try.prog ops Q (o :: rest) a (W.alloc (.cells #[.int .u8 y] 5)) := by
  rcases HO with ⟨A, rfl, hr⟩ | HO
  · obtain ⟨i0, hi, hz0, hs0, hb0⟩ := info_parts info8
    refine wpList_append_grows (W.alloc (.cells #[.int .u8 y] 5)) hgd s x _ ho _ i0 (.int .u8 0) 1 1 Try.underlying79 hi hz0 hs0 hb0 rfl (by omega) A xs.length xs.length (nums .u8 xs) hs ?_ (by rw [nums_length, Nat.mul_one]) ?_
      ⟨W.heap.size, 0, none⟩ 1 1 [.int .u8 y] hx rfl ?_ ?_ (by omega) (by simp only [maxLen]; omega) (by omega) ?_
    · rintro rfl
      rcases Nat.eq_zero_or_pos xs.length with h0 | h0
      · exact ⟨h0, h0⟩
      · obtain ⟨ad, h', _⟩ := hr.2.2 h0
        cases h'
    · rintro b rfl j u hu
      have hj : j < xs.length := by
        have := (List.getElem?_eq_some_iff.1 hu).1
        rwa [nums_length] at this
      obtain ⟨ad, h', hc⟩ := hr.2.2 (by omega)
      obtain rfl := Option.some.inj h'
      have hc1 := hc j hj
      have hu' : u = .int .u8 (xs.getD j 0) := by
        simp [nums, List.getElem?_eq_getElem hj] at hu
        rw [← hu, List.getD_eq_getElem?_getD, List.getElem?_eq_getElem hj]
        rfl
      rw [hu']
      exact pw_cell_below (below_alloc (Below.refl _ _) _) hc1
    · exact World.news_of_block (cs := #[.int .u8 y]) (t := 5) (fr := (0, 0)) (heap_alloc_new W _)
    · intro u hu
      simp at hu
      subst hu
      rfl
    · intro v1 w1 hown hg
      refine h v1 w1 ?_ ?_
      · have hle : B ≤ (W.alloc (.cells #[.int .u8 y] 5)).heap.size := by rw [World.size_alloc]; omega
        have h1 := own_weaken hown hle
        have e1 : nums .u8 (xs ++ [y]) = nums .u8 xs ++ [.int .u8 y] := by simp [nums]
        unfold OwB
        rw [e1, List.length_append]
        exact h1
      · exact ((Fr.refl _ _).alloc _).trans' (Fr.of_grown hg) (fun i hi hk => by cases hk)
  · refine print_append_num (w0 := W) B hgd s x _ _ .u8 1 ho Try.underlying79 info8 (by omega) v xs y hs hx HO (Below.refl _ _) hbase (by omega) ?_
    intro v1 w1 hown hb hg hat
    exact h v1 w1 hown ((Fr.of_grown hg).mono (fun i hi hk => rows_row HO i hk))
theorem append8_row {W : World} (B : Nat) (hgd : o.guard = none) (s x : Operand)
    (ho : o.op = .call { callee := .builtin .append, args := #[s, x], argTypes := #[79, 79] })
    (v : Value) (xs ys : List Int) (A : Option Addr) (c : Nat) (hs : a.eval s = v) (hx : a.eval x = .slice A ys.length c)
    (HO : OwB W B v xs) (HR : RdB W A ys) (hbase : B ≤ W.heap.size) (hl : xs.length + ys.length ≤ 140737488355328)
    (h : ∀ v1 w1, OwB w1 B v1 (xs ++ ys) → Fr (Rows8 B W) W w1 → wpList Try.prog ops Q rest (a.put o.dst v1) w1) :
    wpList Try.prog ops Q (o :: rest) a W := by
  refine print_append_row (w0 := W) B hgd s x _ _ .u8 1 ho Try.underlying79 info8 (by omega) v xs ys A _ c hs hx HO HR (Below.refl _ _) hbase (by omega) ?_
  intro v1 w1 hown hb hg hat
  exact h v1 w1 hown ((Fr.of_grown hg).mono (fun i hi hk => rows_row HO i hk))
theorem append8_str {W : World} (B : Nat) (hgd : o.guard = none) (s x : Operand)
    (ho : o.op = .call { callee := .builtin .append, args := #[s, x], argTypes := #[79, 9] })
    (v : Value) (xs : List Int) (y : ByteArray) (hs : a.eval s = v) (hx : a.eval x = .string y)
    (HO : OwB W B v xs) (hbase : B ≤ W.heap.size) (hl : xs.length + y.size ≤ 140737488355328)
    (h : ∀ v1 w1, OwB w1 B v1 (xs ++ bytesOf y) → Fr (Rows8 B W) W w1 → wpList Try.prog ops Q rest (a.put o.dst v1) w1) :
    wpList Try.prog ops Q (o :: rest) a W := by
  refine print_append_str (w0 := W) B hgd s x _ _ _ ho Try.underlying79 Try.underlying9 info8 v xs y hs hx HO (Below.refl _ _) hbase hl ?_
  intro v1 w1 hown hb hg
  exact h v1 w1 hown ((Fr.of_grown hg).mono (fun i hi hk => rows_row HO i hk))
end
end Go.Proofs.Ytepfhcimmbkilaa
/- The bytes of numbers: plain lists. -/
namespace Go.Proofs.Ytepfhcimmbkilaa

/-- A number's bytes, seven bits each, the low ones first. -/
def digs (m : Nat) : List Int := if m < 128 then [(m : Int)] else ((m % 128 + 128 : Nat) : Int) :: digs (m / 128)
termination_by m
decreasing_by omega
theorem digs_small {m : Nat} (h : m < 128) : digs m = [(m : Int)] := by rw [digs, if_pos h]
theorem digs_big {m : Nat} (h : 128 ≤ m) : digs m = ((m % 128 + 128 : Nat) : Int) :: digs (m / 128) := by rw [digs, if_neg (by omega)]
theorem digs_len (k : Nat) : ∀ m, m < 128 ^ (k + 1) → (digs m).length ≤ k + 1 := by
  induction k with
  | zero => intro m h; rw [digs_small (by simpa using h)]; simp
  | succ k ih =>
    intro m h
    rcases Nat.lt_or_ge m 128 with h1 | h1
    · rw [digs_small h1]; simp
    · rw [digs_big h1, List.length_cons]
      have := ih (m / 128) (by rw [Nat.div_lt_iff_lt_mul (by omega)]; rw [Nat.pow_succ] at h; exact h)
      omega
theorem digs_len10 {m : Nat} (h : m < 18446744073709551616) : (digs m).length ≤ 10 := digs_len 9 m (by omega)
theorem digs_pos (m : Nat) : 0 < (digs m).length := by
  rcases Nat.lt_or_ge m 128 with h | h
  · rw [digs_small h]; simp
  · rw [digs_big h]; simp

/-- What bytes begin with: number, bytes taken, error; the i-th byte stands next, n is what was read. -/
def getR : List Int → Nat → Nat → Nat × Nat × Int
  | [], _, _ => (0, 0, 4)
  | c :: r, i, n =>
    if i = 9 ∧ 1 < c then (0, 0, 3)
    else if 128 ≤ c then getR r (i + 1) (n + (c.toNat % 128) * 2 ^ (7 * i))
    else if c = 0 ∧ 0 < i then (0, 0, 3)
    else (n + (c.toNat % 128) * 2 ^ (7 * i), i + 1, 0)
theorem drop_rd {xs : List Int} {k : Nat} (h : k < xs.length) : xs.drop k = Go.Proofs.YtepfhcimmbkilaaW.PrintWords.rd xs k :: xs.drop (k + 1) := by
  rw [List.drop_eq_getElem_cons h]
  simp [Go.Proofs.YtepfhcimmbkilaaW.PrintWords.rd, List.getD_eq_getElem?_getD, List.getElem?_eq_getElem h]
theorem rd_mem {xs : List Int} {k : Nat} (h : k < xs.length) : Go.Proofs.YtepfhcimmbkilaaW.PrintWords.rd xs k ∈ xs := by
  simp [Go.Proofs.YtepfhcimmbkilaaW.PrintWords.rd, List.getD_eq_getElem?_getD, List.getElem?_eq_getElem h]
theorem step_lt0 {n c i : Nat} (hn : n < 2 ^ (7 * i)) (hc : c < 128) : n + c * 2 ^ (7 * i) < 2 ^ (7 * (i + 1)) := by
  have h1 : c * 2 ^ (7 * i) ≤ 127 * 2 ^ (7 * i) := Nat.mul_le_mul_right _ (by omega)
  have h2 : 2 ^ (7 * (i + 1)) = 128 * 2 ^ (7 * i) := by rw [Nat.mul_add, Nat.pow_add, Nat.mul_comm]
  omega
theorem getR_ok : ∀ (l : List Int) (i n m k : Nat), getR l i n = (m, k, 0) → i < k ∧ k ≤ i + l.length
  | [], i, n, m, k, h => by simp [getR] at h
  | c :: r, i, n, m, k, h => by
    simp only [getR] at h
    split at h
    · simp at h
    · split at h
      · have := getR_ok r _ _ _ _ h
        simp only [List.length_cons]
        omega
      · split at h
        · simp at h
        · simp only [Prod.mk.injEq] at h
          simp only [List.length_cons]
          omega
theorem getR_err : ∀ (l : List Int) (i n : Nat), (getR l i n).2.2 ≠ 0 → (getR l i n).1 = 0 ∧ (getR l i n).2.1 = 0
  | [], i, n, h => by simp [getR]
  | c :: r, i, n, h => by
    simp only [getR] at h ⊢
    split
    · simp
    · rename_i h1
      rw [if_neg h1] at h
      split
      · rename_i h2
        rw [if_pos h2] at h
        exact getR_err r _ _ h
      · rename_i h2
        rw [if_neg h2] at h
        split
        · simp
        · rename_i h3
          rw [if_neg h3] at h
          exact absurd rfl h
theorem getR_lt : ∀ (l : List Int) (i n : Nat), i ≤ 9 → n < 2 ^ (7 * i) → (∀ x ∈ l, 0 ≤ x ∧ x ≤ 255) → (getR l i n).1 < 18446744073709551616
  | [], i, n, _, _, _ => by simp [getR]
  | c :: r, i, n, hi, hn, hb => by
    obtain ⟨h0, h1⟩ := hb c (List.mem_cons_self)
    simp only [getR]
    split
    · simp
    · rename_i h2
      have hlt : n + c.toNat % 128 * 2 ^ (7 * i) < 18446744073709551616 := by
        rcases Nat.lt_or_ge i 9 with h9 | h9
        · have h1 := step_lt0 hn (c := c.toNat % 128) (by omega)
          have h2 : 2 ^ (7 * (i + 1)) ≤ 2 ^ 63 := Nat.pow_le_pow_right (by omega) (by omega)
          omega
        · obtain rfl : i = 9 := by omega
          have h1 : c.toNat % 128 * 2 ^ (7 * 9) ≤ 1 * 2 ^ (7 * 9) := Nat.mul_le_mul_right _ (by omega)
          omega
      split
      · rename_i h3
        exact getR_lt r _ _ (by omega) (step_lt0 hn (by omega)) (fun x hx => hb x (List.mem_cons_of_mem _ hx))
      · split
        · simp
        · exact hlt
/-- One more seven bits: no carry. -/
theorem step_lt {n c i : Nat} (hn : n < 2 ^ (7 * i)) (hc : c < 128) : n + c * 2 ^ (7 * i) < 2 ^ (7 * (i + 1)) := by
  have h1 : c * 2 ^ (7 * i) ≤ 127 * 2 ^ (7 * i) := Nat.mul_le_mul_right _ (by omega)
  have h2 : 2 ^ (7 * (i + 1)) = 128 * 2 ^ (7 * i) := by rw [Nat.mul_add, Nat.pow_add, Nat.mul_comm]
  omega
theorem step_or {n c i : Nat} (hn : n < 2 ^ (7 * i)) : n ||| (c * 2 ^ (7 * i)) = n + c * 2 ^ (7 * i) := by
  rw [Nat.mul_comm, Nat.or_comm, Nat.add_comm, ← Nat.two_pow_add_eq_or_of_lt hn]

/-- The number of bytes, the high ones first. -/
def beVal (l : List Int) : Nat := l.foldl (fun n c => n * 256 + c.toNat) 0
theorem beVal_snoc (l : List Int) (c : Int) : beVal (l ++ [c]) = beVal l * 256 + c.toNat := by simp [beVal]
theorem beVal_lt : ∀ (l : List Int), (∀ x ∈ l, 0 ≤ x ∧ x ≤ 255) → beVal l < 256 ^ l.length := by
  have key : ∀ (l : List Int) (n k : Nat), n < 256 ^ k → (∀ x ∈ l, 0 ≤ x ∧ x ≤ 255) → l.foldl (fun n c => n * 256 + c.toNat) n < 256 ^ (k + l.length) := by
    intro l
    induction l with
    | nil => intro n k h _; simpa using h
    | cons c l ih =>
      intro n k h hb
      obtain ⟨h0, h1⟩ := hb c List.mem_cons_self
      have := ih (n * 256 + c.toNat) (k + 1) (by rw [Nat.pow_succ]; omega) (fun x hx => hb x (List.mem_cons_of_mem _ hx))
      simpa [Nat.add_assoc, Nat.add_comm 1] using this
  intro l hb
  have := key l 0 0 (by simp) hb
  simpa [beVal] using this
theorem take_rd {xs : List Int} {k : Nat} (h : k < xs.length) : xs.take (k + 1) = xs.take k ++ [Go.Proofs.YtepfhcimmbkilaaW.PrintWords.rd xs k] := by
  rw [List.take_succ_eq_append_getElem h]
  simp [Go.Proofs.YtepfhcimmbkilaaW.PrintWords.rd, List.getD_eq_getElem?_getD, List.getElem?_eq_getElem h]
/-- The text that bytes begin with. -/
def textR (xs : List Int) (most : Int) : List Int × Nat × Int :=
  if (getR xs 0 0).2.2 ≠ 0 then ([], 0, (getR xs 0 0).2.2)
  else if most < 0 ∨ most < (getR xs 0 0).1 then ([], 0, 18)
  else if xs.length - (getR xs 0 0).2.1 < (getR xs 0 0).1 then ([], 0, 4)
  else ((xs.take ((getR xs 0 0).2.1 + (getR xs 0 0).1)).drop (getR xs 0 0).2.1, (getR xs 0 0).2.1 + (getR xs 0 0).1, 0)
end Go.Proofs.Ytepfhcimmbkilaa
/- The functions of layer 9 (wire), walked. -/
namespace Go.Proofs.Ytepfhcimmbkilaa
open Go.RowKit
open Go.Proofs.YtepfhcimmbkilaaW.PrintWords

theorem wire_room (A : Option Addr) (n c : Nat) (hc : n ≤ c) (w : World) (hm : n ≤ 140737488355328) :
    Calls Try.prog 58 #[.slice A n c] w fun r w' => r = .returned (.slice A n n) ∧ w = w' := by
  have hr := run_room A n c hc
  go_enter Try.func58, Try.ntmps58
  go_wp2
  go_ret
  exact ⟨rfl, rfl⟩

theorem or128' : ∀ x : Fin 256, bits BinOp.or .u8 ((x.1 : Nat) : Int) 128 = ((x.1 % 128 + 128 : Nat) : Int) := by decide +kernel
theorem or128 (q : Nat) : bits BinOp.or .u8 ((q : Int) % 256) 128 = ((q % 128 + 128 : Nat) : Int) := by
  have h := or128' ⟨q % 256, by omega⟩
  rw [show ((q : Int) % 256) = ((q % 256 : Nat) : Int) from by omega, h]
  show ((q % 256 % 128 + 128 : Nat) : Int) = _
  omega
theorem u64_of_nat {n : Nat} (h : (n : Int) ≤ 9223372036854775807) : IntKind.u64.wrap (n : Int) = n := by
  simp [IntKind.wrap, IntKind.bits, IntKind.signed]
  omega

/-- Eight bytes of a number from the place sh on, the high ones first. -/
def beTo (m : Nat) : Nat → List Int
  | 0 => []
  | k + 1 => ((m / 256 ^ k % 256 : Nat) : Int) :: beTo m k
def be8 (m : Nat) : List Int := beTo m 8

theorem be_val (m k : Nat) : (m : Int) / 2 ^ (8 * (k + 1) - 8) % 256 = ((m / 256 ^ k % 256 : Nat) : Int) := by
  have e : (2 : Int) ^ (8 * (k + 1) - 8) = ((256 ^ k : Nat) : Int) := by
    rw [show 8 * (k + 1) - 8 = 8 * k from by omega, Int.pow_mul]
    simp
  rw [e]
  rfl
set_option maxRecDepth 100000 in
set_option maxHeartbeats 400000 in
theorem wire_eight (A : Option Addr) (xs : List Int) (c m : Nat) (w : World) (hc : xs.length ≤ c) (hr : RdB w A xs) (hl : xs.length ≤ 140737488355300) (hm : m < 18446744073709551616) :
    Calls Try.prog 40 #[.slice A xs.length c, .int .u64 m] w fun r w' => ∃ v, r = .returned v ∧ OwB w' w.heap.size v (xs ++ be8 m) ∧ Fr (fun _ => False) w w' := by
  have HM := Lib.hid hm
  clear hm
  go_enter Try.func40, Try.ntmps40
  go_wp2_with fail
  refine (wire_room A xs.length c hc w (by omega)).mono ?_
  rintro r w1 ⟨rfl, rfl⟩
  go_wp2_with fail
  go_loopw [0, 5] (fun v i wr => ∃ (k : Nat) (pre : List Int), k ≤ 8 ∧ i = .int .i64 (8 * (k : Int) - 8) ∧ Hid (pre ++ beTo m k = xs ++ be8 m ∧ ApB wr w.heap.size v pre ∧ (k < 8 → OwB wr w.heap.size v pre) ∧ Fr (fun _ => False) w wr)) (fun _ i _ => (intOf i + 8).toNat)
  case atStart => exact ⟨8, xs, by omega, rfl, ⟨rfl, .inl ⟨A, rfl, hr⟩, fun h => by omega, Fr.refl _ _⟩⟩
  case round =>
    obtain ⟨k, pre, hk, rfl, hrel⟩ := hrel
    obtain ⟨he, HO, HO2, G⟩ := hrel.out
    clear hrel
    have hlen : pre.length + (beTo m k).length ≤ 140737488355328 := by
      have := congrArg List.length he
      rw [List.length_append, List.length_append] at this
      have : (be8 m).length = 8 := rfl
      omega
    obtain ⟨A1, c1, rfl⟩ := HO.form
    have HE := Lib.hid he
    have HHO := Lib.hid HO
    have hb2 := G.size
    have HHO2 := Lib.hid HO2
    clear HO HO2 hl hc hr he
    match k, hk, HE, hlen, HHO2 with
    | 0, hk, HE, hlen, HHO2 =>
      go_wp2_with fail
      go_ret
      have he := HE.out
      simp only [beTo, List.append_nil] at he
      subst he
      exact ⟨_, rfl, HHO2.out (by omega), G⟩
    | k + 1, hk, HE, hlen, HHO2 =>
      have hb1 : pre.length + 1 ≤ 140737488355328 := by simp only [beTo, List.length_cons] at hlen; omega
      clear hlen
      go_wp2_with (at_builtin; go_must (refine append8 w.heap.size rfl _ _ rfl (.slice A1 pre.length c1) pre _ rfl rfl HHO.out hb2 hb1 ?_); intro v1 w1 hown hF)
      refine ⟨⟨k, pre ++ [((m / 256 ^ k % 256 : Nat) : Int)], by omega, congrArg _ (by omega), ?_, ?_, ?_, G.trans' hF (fun i hi hk => by have := hk.1; omega)⟩, ?_⟩
      · have he := HE.out
        rw [← he, List.append_assoc]
        rfl
      · rw [← be_val m k]
        exact .inr hown
      · intro _
        rw [← be_val m k]
        exact hown
      · simp only [intOf]
        omega
end Go.Proofs.Ytepfhcimmbkilaa
/- The functions of layer 9 (wire) that read, walked. -/
namespace Go.Proofs.Ytepfhcimmbkilaa
open Go.RowKit
open Go.Proofs.YtepfhcimmbkilaaW.PrintWords

def Byt (xs : List Int) : Prop := ∀ x ∈ xs, 0 ≤ x ∧ x ≤ 255

theorem and127 {b : Int} (h0 : 0 ≤ b) (h1 : b ≤ 255) : bits BinOp.and .u8 b 127 = ((b.toNat % 128 : Nat) : Int) := by
  have h := u8_and_nat b.toNat 127 (by omega) (by omega)
  rw [show ((b.toNat : Nat) : Int) = b from by omega] at h
  rw [show ((127 : Nat) : Int) = 127 from rfl] at h
  rw [h]
  have : b.toNat &&& 127 = b.toNat % 128 := Nat.and_two_pow_sub_one_eq_mod b.toNat 7
  omega
theorem wrap_u64 {n : Nat} (h : n < 18446744073709551616) : IntKind.u64.wrap (n : Int) = n := by
  simp [IntKind.wrap, IntKind.bits, IntKind.signed]
  omega
theorem part_lt {k q b : Nat} (hq : q < 2 ^ (7 * k)) (hb : b < 128) (h : k ≤ 8 ∨ (k = 9 ∧ b ≤ 1)) : q + b * 2 ^ (7 * k) < 18446744073709551616 := by
  rcases h with h | ⟨rfl, hb1⟩
  · have h1 := step_lt hq hb
    have h2 : 2 ^ (7 * (k + 1)) ≤ 2 ^ 63 := Nat.pow_le_pow_right (by omega) (by omega)
    omega
  · have h1 : b * 2 ^ (7 * 9) ≤ 1 * 2 ^ (7 * 9) := Nat.mul_le_mul_right _ hb1
    omega
theorem getval {k q : Nat} {b : Int} (h0 : 0 ≤ b) (h1 : b ≤ 255) (hq : q < 2 ^ (7 * k)) (h : k ≤ 8 ∨ (k = 9 ∧ b ≤ 1)) :
    bits BinOp.or .u64 (q : Int) (IntKind.u64.wrap (IntKind.u64.wrap (bits BinOp.and .u8 b 127) * 2 ^ (7 * k))) = ((q + b.toNat % 128 * 2 ^ (7 * k) : Nat) : Int) := by
  have hb : b.toNat % 128 < 128 := by omega
  have hlt := part_lt hq hb (by omega)
  have e : ((b.toNat % 128 : Nat) : Int) * 2 ^ (7 * k) = ((b.toNat % 128 * 2 ^ (7 * k) : Nat) : Int) := by simp
  rw [and127 h0 h1, wrap_u64 (by omega), e, wrap_u64 (by omega), bits_or_u64_nat _ _ (by omega) (by omega), step_or hq]

theorem orlow {q : Nat} {b : Int} (h0 : 0 ≤ b) (h1 : b ≤ 255) (hq : q < 72057594037927936) :
    bits BinOp.or .u64 (IntKind.u64.wrap ((q : Int) * 256)) b = ((q * 256 + b.toNat : Nat) : Int) := by
  have e : (q : Int) * 256 = ((q * 256 : Nat) : Int) := by simp
  rw [e, wrap_u64 (by omega)]
  have h := bits_or_u64_nat (q * 256) b.toNat (by omega) (by omega)
  rw [show ((b.toNat : Nat) : Int) = b from by omega] at h
  rw [h]
  have h2 := Nat.two_pow_add_eq_or_of_lt (i := 8) (b := b.toNat) (by omega) q
  rw [show 2 ^ 8 * q = q * 256 from by omega] at h2
  rw [h2]

end Go.Proofs.Ytepfhcimmbkilaa
/- The reference's functions of layer 9 (wire), walked. -/
namespace Go.Proofs.Ytepfhcimmbkilaa
open Go.RowKit
open Go.Proofs.YtepfhcimmbkilaaW.PrintWords

theorem ow_lit0 (w : World) : OwB (w.alloc (.cells #[] 5)) w.heap.size (.slice (some ⟨w.heap.size, 0, none⟩) 0 0) [] :=
  own_lit w w.heap.size 5 .u8 [] (Nat.le_refl _) (by simp)

theorem be_val2 (m k : Nat) : (m : Int) / 2 ^ (8 * k) % 256 = ((m / 256 ^ k % 256 : Nat) : Int) := by
  have h := be_val m k
  rwa [show 8 * (k + 1) - 8 = 8 * k from by omega] at h

set_option maxRecDepth 100000 in
set_option maxHeartbeats 400000 in
theorem ref_big (m : Nat) (w : World) (hm : m < 18446744073709551616) :
    Calls Try.prog 53 #[.int .u64 m] w fun r w' => ∃ v, r = .returned v ∧ OwB w' w.heap.size v (be8 m) ∧ Fr (fun _ => False) w w' := by
  have HM := Lib.hid hm
  clear hm
  go_enter Try.func53, Try.ntmps53
  go_wp2_with fail
  go_loopw [3, 4] (fun v i wr => ∃ (k : Nat) (pre : List Int), k ≤ 8 ∧ i = .int .i64 ((k : Int) - 1) ∧ Hid (pre ++ beTo m k = be8 m ∧ OwB wr w.heap.size v pre ∧ Fr (fun _ => False) w wr)) (fun _ i _ => (intOf i + 1).toNat)
  case atStart => exact ⟨8, [], by omega, rfl, ⟨rfl, ow_lit0 w, (Fr.refl _ _).alloc _⟩⟩
  case round =>
    obtain ⟨k, pre, hk, rfl, hrel⟩ := hrel
    obtain ⟨he, HO, G⟩ := hrel.out
    clear hrel
    have hlen : pre.length + (beTo m k).length = 8 := by
      have := congrArg List.length he
      rw [List.length_append] at this
      exact this
    obtain ⟨A1, c1, rfl, _⟩ := HO.reads
    have HE := Lib.hid he
    have HHO := Lib.hid (show ApB wr w.heap.size (.slice A1 pre.length c1) pre from .inr HO)
    have HO1 := Lib.hid HO
    have hb2 := G.size
    clear HO he
    match k, hk, HE, hlen with
    | 0, hk, HE, hlen =>
      clear hlen
      go_wp2_with fail
      go_ret
      have he := HE.out
      simp only [beTo, List.append_nil] at he
      rw [← he]
      exact ⟨_, rfl, HO1.out, G⟩
    | k + 1, hk, HE, hlen =>
      have hb1 : pre.length + 1 ≤ 140737488355328 := by omega
      clear hlen
      go_wp2_with (at_builtin; go_must (refine append8 w.heap.size rfl _ _ rfl (.slice A1 pre.length c1) pre _ rfl rfl HHO.out hb2 hb1 ?_); intro v1 w1 hown hF)
      refine ⟨⟨k, pre ++ [((m / 256 ^ k % 256 : Nat) : Int)], by omega, congrArg _ (by omega), ?_, ?_, G.trans' hF (fun i hi hk => by have := hk.1; omega)⟩, ?_⟩
      · have he := HE.out
        rw [← he, List.append_assoc]
        rfl
      · rw [← be_val2 m k]
        exact hown
      · simp only [intOf]
        omega

theorem getval2 {k q : Nat} {b : Int} (h0 : 0 ≤ b) (h1 : b ≤ 255) (hq : q < 2 ^ (7 * k)) (h : k ≤ 8 ∨ (k = 9 ∧ b ≤ 1)) :
    IntKind.u64.wrap ((q : Int) + IntKind.u64.wrap (b % 128 * 2 ^ (7 * k))) = ((q + b.toNat % 128 * 2 ^ (7 * k) : Nat) : Int) := by
  have hb : b.toNat % 128 < 128 := by omega
  have hlt := part_lt hq hb (by omega)
  have e0 : b % 128 = ((b.toNat % 128 : Nat) : Int) := by omega
  have e : ((b.toNat % 128 : Nat) : Int) * 2 ^ (7 * k) = ((b.toNat % 128 * 2 ^ (7 * k) : Nat) : Int) := by simp
  rw [e0, e, wrap_u64 (by omega), ← Int.natCast_add, wrap_u64 hlt]
end Go.Proofs.Ytepfhcimmbkilaa
/- What is put is got: plain lists. -/
namespace Go.Proofs.Ytepfhcimmbkilaa
open Go.Proofs.YtepfhcimmbkilaaW.PrintWords

theorem getR_digs (r : List Int) : ∀ (k m i n : Nat), m < 128 ^ (k + 1) → i ≤ 9 → m * 2 ^ (7 * i) < 18446744073709551616 → (i = 0 ∨ 0 < m) →
    getR (digs m ++ r) i n = (n + m * 2 ^ (7 * i), i + (digs m).length, 0) := by
  intro k
  induction k with
  | zero =>
    intro m i n hk hi hm h0
    have hs : m < 128 := by simpa using hk
    rw [digs_small hs]
    simp only [List.cons_append, List.nil_append, getR, List.length_singleton]
    rw [if_neg, if_neg (by omega), if_neg (by omega)]
    · simp only [Int.toNat_natCast, Nat.mod_eq_of_lt hs]
    · rintro ⟨rfl, h1⟩
      omega
  | succ k ih =>
    intro m i n hk hi hm h0
    rcases Nat.lt_or_ge m 128 with hs | hs
    · rw [digs_small hs]
      simp only [List.cons_append, List.nil_append, getR, List.length_singleton]
      rw [if_neg, if_neg (by omega), if_neg (by omega)]
      · simp only [Int.toNat_natCast, Nat.mod_eq_of_lt hs]
      · rintro ⟨rfl, h1⟩
        omega
    · have hi8 : i ≤ 8 := by
        rcases Nat.lt_or_ge i 9 with h | h
        · omega
        · obtain rfl : i = 9 := by omega
          omega
      rw [digs_big hs]
      simp only [List.cons_append, getR, List.length_cons]
      rw [if_neg (by omega), if_pos (by omega)]
      have e1 : 2 ^ (7 * (i + 1)) = 128 * 2 ^ (7 * i) := by rw [Nat.mul_add, Nat.pow_add, Nat.mul_comm]
      have e2 : m / 128 * 2 ^ (7 * (i + 1)) = (m / 128 * 128) * 2 ^ (7 * i) := by rw [e1, Nat.mul_assoc]
      have e3 : m * 2 ^ (7 * i) = (m / 128 * 128) * 2 ^ (7 * i) + (m % 128) * 2 ^ (7 * i) := by rw [← Nat.add_mul]; congr 1; omega
      rw [ih (m / 128) (i + 1) _ (by rw [Nat.div_lt_iff_lt_mul (by omega)]; rw [Nat.pow_succ] at hk; exact hk) (by omega) (by omega) (.inr (by omega))]
      rw [e2, e3]
      have e4 : (((m % 128 + 128 : Nat) : Int)).toNat % 128 = m % 128 := by omega
      rw [e4]
      simp only [Prod.mk.injEq, and_true]
      omega
theorem get_digs {m : Nat} (r : List Int) (h : m < 18446744073709551616) : getR (digs m ++ r) 0 0 = (m, (digs m).length, 0) := by
  have := getR_digs r 9 m 0 0 (by omega) (by omega) (by simpa using h) (.inl rfl)
  simpa using this
theorem bytes_str (s : ByteArray) : strOfNums (bytesOf s) = s := by
  obtain ⟨⟨l⟩⟩ := s
  simp only [strOfNums, bytesOf, List.map_map]
  congr 2
  have : ∀ l : List UInt8, l.map ((fun n : Int => UInt8.ofNat n.toNat) ∘ fun b : UInt8 => (b.toNat : Int)) = l := by
    intro l
    induction l with
    | nil => rfl
    | cons x r ih => simp only [List.map_cons, ih, Function.comp]; simp
  exact this l
theorem bytes_byt (s : ByteArray) : Byt (bytesOf s) := by
  intro x hx
  simp only [bytesOf, List.mem_map] at hx
  obtain ⟨b, _, rfl⟩ := hx
  have := b.toNat_lt
  omega
theorem digs_byt (k : Nat) : ∀ m, m < 128 ^ (k + 1) → Byt (digs m) := by
  induction k with
  | zero => intro m h x hx; rw [digs_small (by simpa using h)] at hx; simp at hx; simp at h; omega
  | succ k ih =>
    intro m h
    rcases Nat.lt_or_ge m 128 with hs | hs
    · intro x hx; rw [digs_small hs] at hx; simp at hx; omega
    · intro x hx
      rw [digs_big hs, List.mem_cons] at hx
      rcases hx with rfl | hx
      · omega
      · exact ih (m / 128) (by rw [Nat.div_lt_iff_lt_mul (by omega)]; rw [Nat.pow_succ] at h; exact h) x hx
theorem digs_byt10 {m : Nat} (h : m < 18446744073709551616) : Byt (digs m) := digs_byt 9 m (by omega)
theorem Byt.append {a b : List Int} (ha : Byt a) (hb : Byt b) : Byt (a ++ b) := fun x hx => by
  rcases List.mem_append.1 hx with h | h
  · exact ha x h
  · exact hb x h
theorem text_digs (s : ByteArray) (r : List Int) (most : Int) (h : (s.size : Int) ≤ most) (hm : s.size < 18446744073709551616) :
    textR (digs s.size ++ bytesOf s ++ r) most = (bytesOf s, (digs s.size).length + s.size, 0) := by
  have hg : getR (digs s.size ++ bytesOf s ++ r) 0 0 = (s.size, (digs s.size).length, 0) := by
    rw [List.append_assoc]
    exact get_digs _ hm
  have hb := bytesOf_length s
  unfold textR
  rw [hg]
  simp only
  rw [if_neg (by simp), if_neg (by omega), if_neg (by simp only [List.length_append]; omega)]
  congr 1
  rw [List.take_append_of_le_length (by simp only [List.length_append]; omega), List.take_of_length_le (by simp only [List.length_append]; omega), List.drop_left]
theorem beTo_len (m : Nat) : ∀ k, (beTo m k).length = k
  | 0 => rfl
  | k + 1 => by rw [beTo, List.length_cons, beTo_len m k]
theorem beTo_byt (m : Nat) : ∀ k, Byt (beTo m k)
  | 0 => fun x hx => by cases hx
  | k + 1 => fun x hx => by
    rw [beTo, List.mem_cons] at hx
    rcases hx with rfl | hx
    · omega
    · exact beTo_byt m k x hx
theorem beVal_cons (c : Int) (l : List Int) : beVal (c :: l) = c.toNat * 256 ^ l.length + beVal l := by
  have key : ∀ (l : List Int) (n : Nat), l.foldl (fun n c => n * 256 + c.toNat) n = n * 256 ^ l.length + l.foldl (fun n c => n * 256 + c.toNat) 0 := by
    intro l
    induction l with
    | nil => intro n; simp
    | cons d l ih =>
      intro n
      rw [List.foldl_cons, List.foldl_cons, ih, ih (0 * 256 + d.toNat), List.length_cons, Nat.pow_succ]
      rw [Nat.add_mul, Nat.zero_mul, Nat.zero_add, Nat.mul_assoc, Nat.mul_comm 256]
      omega
  unfold beVal
  rw [List.foldl_cons, key, Nat.zero_mul, Nat.zero_add]
theorem beVal_beTo (m : Nat) : ∀ k, beVal (beTo m k) = m % 256 ^ k
  | 0 => by simp [beTo, beVal, Nat.mod_one]
  | k + 1 => by
    rw [beTo, beVal_cons, beVal_beTo m k, beTo_len, Int.toNat_natCast, Nat.pow_succ, Nat.mod_mul, Nat.add_comm, Nat.mul_comm]
theorem beVal_be8 {m : Nat} (h : m < 18446744073709551616) : beVal (be8 m) = m := by
  unfold be8
  rw [beVal_beTo]
  exact Nat.mod_eq_of_lt (by omega)
end Go.Proofs.Ytepfhcimmbkilaa
/- Digests: what they compute (plain), and the functions digest.Of, digest.Mix, digest.Seal and the document's Of, each walked once. -/
namespace Go.Proofs.Ytepfhcimmbkilaa
open Go.RowKit
open Go.Proofs.YtepfhcimmbkilaaW.PrintWords

/-- One round of the digest. -/
def fnv1 (h x : Nat) : Nat := (h ^^^ x) * 1099511628211 % 18446744073709551616
def fnv (h : Nat) : List Int → Nat
  | [] => h
  | x :: xs => fnv (fnv1 h x.toNat) xs
def dOf (xs : List Int) : Nat := fnv 14695981039346656037 xs
theorem fnv1_lt (h x : Nat) : fnv1 h x < 18446744073709551616 := Nat.mod_lt _ (by omega)
theorem fnv_lt : ∀ (xs : List Int) (h : Nat), h < 18446744073709551616 → fnv h xs < 18446744073709551616
  | [], h, hh => hh
  | x :: xs, h, _ => fnv_lt xs _ (fnv1_lt h _)
theorem dOf_lt (xs : List Int) : dOf xs < 18446744073709551616 := fnv_lt xs _ (by omega)
theorem fnv_append (xs ys : List Int) : ∀ h, fnv h (xs ++ ys) = fnv (fnv h xs) ys := by
  induction xs with
  | nil => intro h; rfl
  | cons x xs ih => intro h; exact ih _

theorem xor_u64 (h x : Nat) (hh : h < 18446744073709551616) (hx : x < 18446744073709551616) : bits .xor .u64 (h : Int) (x : Int) = ((h ^^^ x : Nat) : Int) := u64_xor_nat h x hh hx
theorem mul_u64 (n : Nat) : IntKind.u64.wrap ((n : Int) * 1099511628211) = ((n * 1099511628211 % 18446744073709551616 : Nat) : Int) := by
  simp [IntKind.wrap, IntKind.bits, IntKind.signed]
theorem fnv_step (h : Nat) (x : Int) (hh : h < 18446744073709551616) (h0 : 0 ≤ x) (h1 : x ≤ 255) :
    IntKind.u64.wrap (bits .xor .u64 (h : Int) x * 1099511628211) = ((fnv1 h x.toNat : Nat) : Int) := by
  have e : x = ((x.toNat : Nat) : Int) := by omega
  rw [e, xor_u64 h x.toNat hh (by omega), mul_u64]
  rfl
theorem and255 (n : Nat) (hn : n < 18446744073709551616) : bits .and .u64 (n : Int) 255 = ((n % 256 : Nat) : Int) := by
  have h := u64_and_nat n 255 hn (by omega)
  rw [show (255 : Nat) = 2 ^ 8 - 1 from rfl, Nat.and_two_pow_sub_one_eq_mod] at h
  exact h
set_option maxRecDepth 100000 in
theorem dig_of (A : Option Addr) (xs : List Int) (c : Nat) (w : World) (hr : RdB w A xs) (hx : Byt xs) (hl : xs.length ≤ 140737488355328) :
    Calls Try.prog 43 #[.slice A xs.length c] w fun r w' => r = .returned (.int .u64 (dOf xs)) ∧ w = w' := by
  go_enter Try.func43, Try.ntmps43
  go_wp2_with fail
  go_loop [3, 8] (fun n i => ∃ (k q : Nat), k ≤ xs.length ∧ i = .int .i64 k ∧ n = .int .u64 q ∧ Hid (q < 18446744073709551616 ∧ fnv q (xs.drop k) = dOf xs)) (fun _ i => xs.length - (intOf i).toNat)
  case atStart => exact ⟨0, 14695981039346656037, by omega, rfl, rfl, ⟨by omega, rfl⟩⟩
  case round =>
    obtain ⟨k, q, hk, rfl, rfl, hrel⟩ := hrel
    rcases Nat.lt_or_ge k xs.length with hlt | hge
    · obtain ⟨bb, off, rfl, hc⟩ := RdB.at_ hr hlt
      obtain ⟨h0, h1⟩ := hx _ (rd_mem hlt)
      obtain ⟨hq, he⟩ := hrel.out
      rw [drop_rd hlt] at he
      have HE := Lib.hid he
      have hst := fnv_step q _ hq h0 h1
      clear he hq hrel hx hr
      generalize rd xs ↑k = b at *
      generalize hg : fnv1 q b.toNat = q' at *
      have HG := Lib.hid hg
      clear hg
      go_wp2_with fail
      exact ⟨⟨k + 1, q', by omega, by simp, rfl, by rw [← HG.out]; exact fnv1_lt _ _, by have := HE.out; rw [← HG.out]; exact this⟩, by simp [intOf]; omega⟩
    · obtain rfl : k = xs.length := by omega
      go_wp2_with fail
      go_ret
      obtain ⟨hq, he⟩ := hrel.out
      rw [List.drop_length] at he
      rw [← he]
      exact ⟨rfl, rfl⟩

set_option maxRecDepth 100000 in
theorem ref_of (A : Option Addr) (xs : List Int) (c : Nat) (w : World) (hr : RdB w A xs) (hx : Byt xs) (hl : xs.length ≤ 140737488355328) :
    Calls Try.prog 52 #[.slice A xs.length c] w fun r w' => r = .returned (.int .u64 (dOf xs)) ∧ w = w' := by
  go_enter Try.func52, Try.ntmps52
  go_wp2_with fail
  go_loop [3, 4] (fun n i => ∃ (k q : Nat), k ≤ xs.length ∧ i = .int .i64 k ∧ n = .int .u64 q ∧ Hid (q < 18446744073709551616 ∧ fnv q (xs.drop k) = dOf xs)) (fun _ i => xs.length - (intOf i).toNat)
  case atStart => exact ⟨0, 14695981039346656037, by omega, rfl, rfl, ⟨by omega, rfl⟩⟩
  case round =>
    obtain ⟨k, q, hk, rfl, rfl, hrel⟩ := hrel
    rcases Nat.lt_or_ge k xs.length with hlt | hge
    · obtain ⟨bb, off, rfl, hc⟩ := RdB.at_ hr hlt
      obtain ⟨h0, h1⟩ := hx _ (rd_mem hlt)
      obtain ⟨hq, he⟩ := hrel.out
      rw [drop_rd hlt] at he
      have HE := Lib.hid he
      have hst := fnv_step q _ hq h0 h1
      clear he hq hrel hx hr
      generalize rd xs ↑k = b at *
      generalize hg : fnv1 q b.toNat = q' at *
      have HG := Lib.hid hg
      clear hg
      go_wp2_with fail
      exact ⟨⟨k + 1, q', by omega, by simp, rfl, by rw [← HG.out]; exact fnv1_lt _ _, by have := HE.out; rw [← HG.out]; exact this⟩, by simp [intOf]; omega⟩
    · obtain rfl : k = xs.length := by omega
      go_wp2_with fail
      go_ret
      obtain ⟨hq, he⟩ := hrel.out
      rw [List.drop_length] at he
      rw [← he]
      exact ⟨rfl, rfl⟩

theorem mix_val (x q k : Nat) (hk : k < 8) (hq : q < 18446744073709551616) (hx : x < 18446744073709551616) :
    IntKind.u64.wrap (bits .xor .u64 (q : Int) (bits .and .u64 ((x : Int) / 2 ^ (56 - 8 * k)) 255) * 1099511628211) = ((fnv1 q (x / 256 ^ (7 - k) % 256) : Nat) : Int) := by
  have e : (x : Int) / 2 ^ (56 - 8 * k) = ((x / 256 ^ (7 - k) : Nat) : Int) := by
    have e2 : (2 : Int) ^ (56 - 8 * k) = ((256 ^ (7 - k) : Nat) : Int) := by
      rw [show 56 - 8 * k = 8 * (7 - k) from by omega, Int.pow_mul]
      simp
    rw [e2]
    rfl
  rw [e, and255 _ (Nat.lt_of_le_of_lt (Nat.div_le_self _ _) hx), xor_u64 _ _ hq (by omega), mul_u64]
  rfl
theorem mix_to (x k : Nat) (hk : k < 8) : beTo x (8 - k) = ((x / 256 ^ (7 - k) % 256 : Nat) : Int) :: beTo x (8 - (k + 1)) := by
  rw [show 8 - k = (7 - k) + 1 from by omega, show 8 - (k + 1) = 7 - k from by omega]
  rfl
theorem ixm0 (e f : Int) (w : World) : (Instr.index 96 (.agg #[.int .u64 e, .int .u64 f]) (.int .i64 0)).run Try.prog w = .ok (.int .u64 e) w := by kernel_rfl
theorem ixm1 (e f : Int) (w : World) : (Instr.index 96 (.agg #[.int .u64 e, .int .u64 f]) (.int .i64 1)).run Try.prog w = .ok (.int .u64 f) w := by kernel_rfl
set_option maxRecDepth 100000 in
theorem dig_mix (x y : Nat) (w : World) (hx : x < 18446744073709551616) (hy : y < 18446744073709551616) :
    Calls Try.prog 42 #[.int .u64 x, .int .u64 y] w fun r w' => r = .returned (.int .u64 (dOf (be8 x ++ be8 y))) ∧ w = w' := by
  go_enter Try.func42, Try.ntmps42
  go_wp2_with fail
  have i0 := ixm0 x y
  have i1 := ixm1 x y
  refine wp_loop_rounds 3 ?_
  rw [rounds_succ]
  go_wp2_with fail
  go_loop [5, 15] (fun n i => ∃ (k q : Nat), k ≤ 8 ∧ i = .int .i64 k ∧ n = .int .u64 q ∧ Hid (q < 18446744073709551616 ∧ fnv q (beTo x (8 - k) ++ be8 y) = dOf (be8 x ++ be8 y))) (fun _ i => 8 - (intOf i).toNat)
  case atStart => exact ⟨0, 14695981039346656037, by omega, rfl, rfl, ⟨by omega, rfl⟩⟩
  case round =>
    obtain ⟨k, q, hk, rfl, rfl, hrel⟩ := hrel
    rcases Nat.lt_or_ge k 8 with hlt | hge
    · go_wp2_with fail
      obtain ⟨hq, he⟩ := hrel.out
      rw [mix_to x k hlt] at he
      exact ⟨⟨k + 1, fnv1 q (x / 256 ^ (7 - k) % 256), by omega, rfl, by rw [mix_val x q k hlt hq (by assumption)], fnv1_lt _ _, by rw [← he]; rfl⟩, by simp [intOf]; omega⟩
    · obtain rfl : k = 8 := by omega
      obtain ⟨hq, he⟩ := hrel.out
      simp only [Nat.sub_self, beTo, List.nil_append] at he
      have HE := Lib.hid he
      have HQ := Lib.hid hq
      clear he hq hrel
      go_wp2_with fail
      rw [rounds_succ]
      go_wp2_with fail
      go_loop [5, 15] (fun n i => ∃ (k q : Nat), k ≤ 8 ∧ i = .int .i64 k ∧ n = .int .u64 q ∧ Hid (q < 18446744073709551616 ∧ fnv q (beTo y (8 - k)) = dOf (be8 x ++ be8 y))) (fun _ i => 8 - (intOf i).toNat)
      case atStart => exact ⟨0, q, by omega, rfl, rfl, ⟨HQ.out, HE.out⟩⟩
      case round =>
        obtain ⟨k, q, hk, rfl, rfl, hrel⟩ := hrel
        rcases Nat.lt_or_ge k 8 with hlt | hge
        · go_wp2_with fail
          obtain ⟨hq, he⟩ := hrel.out
          rw [mix_to y k hlt] at he
          exact ⟨⟨k + 1, fnv1 q (y / 256 ^ (7 - k) % 256), by omega, rfl, by rw [mix_val y q k hlt hq (by assumption)], fnv1_lt _ _, by rw [← he]; rfl⟩, by simp [intOf]; omega⟩
        · obtain rfl : k = 8 := by omega
          obtain ⟨hq, he⟩ := hrel.out
          simp only [Nat.sub_self, beTo, List.nil_append] at he
          have HEE := Lib.hid he
          clear he hq hrel HE HQ
          simp only [fnv] at HEE
          go_wp2_with fail
          rw [rounds_succ]
          go_wp2_with fail
          go_ret
          rw [HEE.out]
          exact ⟨rfl, rfl⟩
end Go.Proofs.Ytepfhcimmbkilaa
/- Vault.Digest. -/
namespace Go.Proofs.Ytepfhcimmbkilaa
open Go.RowKit
open Go.Proofs.YtepfhcimmbkilaaW.PrintWords

theorem foldl_bad {key : ByteArray} (hk : ¬ keyOk key) : ∀ (H : List HE) (c : CellD), H.foldl (cellStep key) c = c := by
  intro H
  induction H with
  | nil => intro c; rfl
  | cons e H ih =>
    intro c
    have he : cellStep key c e = c := by
      unfold cellStep
      by_cases h : e.2.2.2.1 = key
      · rw [cdec_true h, cond_true, doC_bad (fun h' => hk (h ▸ h'.2.1))]
      · rw [cdec_false h, cond_false]
    rw [List.foldl_cons, he]
    exact ih c
theorem found_key {H : List HE} {key : ByteArray} (h : (cellOf H key).1 = true) : keyOk key := Classical.byContradiction fun hn => by
  rw [show cellOf H key = (false, 0) from foldl_bad hn H _] at h
  cases h
theorem field_val (f : Bool) (x : Nat) (w : World) : (Instr.field 53 (.agg #[.bool f, .float .f64 x]) 1).run Try.prog w = .ok (.float .f64 x) w := by kernel_rfl
/-- One key's share. -/
noncomputable def oneV (H : List HE) (k : ByteArray) : Nat := dOf (bytesOf k ++ be8 (canonP (cellOf H k).2))
theorem foldl_snoc {α β : Type} (f : α → β → α) (l : List β) (x : β) (z : α) : (l ++ [x]).foldl f z = f (l.foldl f z) x := by rw [List.foldl_append]; rfl
noncomputable def mixV (one : ByteArray → Nat) (h : Nat) (k : ByteArray) : Nat := dOf (be8 h ++ be8 (one k))
noncomputable def digV (H : List HE) (ks : List ByteArray) : Nat := ks.foldl (mixV (oneV H)) 0
theorem digV_snoc (H : List HE) (ks : List ByteArray) (k : ByteArray) : digV H (ks ++ [k]) = mixV (oneV H) (digV H ks) k := foldl_snoc (mixV (oneV H)) ks k 0
theorem mixV_lt (one : ByteArray → Nat) (h : Nat) (k : ByteArray) : mixV one h k < 18446744073709551616 := dOf_lt _
theorem digV_lt (H : List HE) (ks : List ByteArray) : digV H ks < 18446744073709551616 := by
  unfold digV
  generalize hz : (0 : Nat) = z
  have hz' : z < 18446744073709551616 := by omega
  clear hz
  induction ks generalizing z with
  | nil => simpa using hz'
  | cons k ks ih =>
    rw [List.foldl_cons]
    exact ih _ (mixV_lt _ _ _)
theorem digV_same {H H' : List HE} (h : ∀ k, cellOf H k = cellOf H' k) (ks : List ByteArray) : digV H ks = digV H' ks := by
  have : oneV H = oneV H' := by funext k; unfold oneV; rw [h k]
  unfold digV
  rw [this]
set_option maxRecDepth 100000 in
set_option maxHeartbeats 4000000 in
theorem vault_digest (g n : Nat) (S : Nat → Prop) (H : List HE) (w : World) (h : VaultRep w S g H n) (hH : HGood H) (hHl : H.length ≤ 1000000000) :
    Calls Try.prog 18 #[.pointer (some ⟨g, 0, none⟩)] w fun r w' => ∃ ks, KeysV H ks ∧ r = .returned (.int .u64 (digV H ks)) ∧ Fr (fun _ => False) w w' := by
  have HV := Lib.hid h
  have HH := Lib.hid hH
  clear h hH
  go_enter Try.func18, Try.ntmps18
  go_wp2_with fail
  refine (vault_keys g n S H w HV.out hHl).mono ?_
  rintro r w1 ⟨v1, ks, rfl, hR1, hK, hF1⟩
  obtain ⟨A1, c1, rfl⟩ := Kd.R_slice hR1
  have HC := Lib.hid (Kd.R_reads' hR1).2.2
  have HK := Lib.hid hK
  have HF1 := Lib.hid hF1
  have hkb : ks.length ≤ 1000000000 := Nat.le_trans hK.len hHl
  clear hR1 hK hF1
  go_wp2_with fail
  go_loopw [3, 10] (fun u i wr => ∃ k : Nat, k ≤ ks.length ∧ i = .int .i64 k ∧ u = .int .u64 (digV H (ks.take k)) ∧ Fr (fun _ => False) w1 wr) (fun _ i _ => ks.length - (intOf i).toNat)
  case atStart => exact ⟨0, Nat.zero_le _, rfl, rfl, Fr.refl _ _⟩
  case round =>
    obtain ⟨k, hk, rfl, rfl, hG⟩ := hrel
    have HG := Lib.hid hG
    clear hG
    rcases Nat.lt_or_ge k ks.length with hlt | hge
    · obtain ⟨b, off, rfl, h0⟩ := strs_at (Kd.C_below HC.out (HG.out.below (fun _ _ h => h))) hlt
      have hfd := (HK.out.mem _).1 (stx_mem hlt)
      obtain ⟨s, hs⟩ : ∃ s, s = stx ks k := ⟨_, rfl⟩
      have HTK := Lib.hid (show ks.take (k + 1) = ks.take k ++ [s] from by rw [take_stx hlt, hs])
      rw [← hs] at h0 hfd
      have hsz : s.size ≤ 12 := (found_key hfd).2.2
      have hmx : s.size ≤ maxLen := by unfold maxLen; omega
      have hFb : Fr (fun _ => False) wr (Lib.bytesWorld wr 5 s) := Fr.of_below (bytes_below (Below.refl wr.heap.size wr) (Nat.le_refl _) 5 s)
      have hrd := bytes_reads wr 5 s (by omega)
      have kb := print_bytes (P := Try.prog) 9 79 5 Try.underlying9 Try.underlying79 Try.underlying5 s wr
      obtain ⟨mc, ml, F, Lh, hV⟩ := HV.out
      have hVb := hV.fr (HF1.out.trans (HG.out.trans hFb)) (fun _ _ h => h)
      have hlk := hVb.look hmx
      have v0 := hVb.blk.cell 0
      simp only [List.getElem?_toArray, List.getElem?_cons_zero, List.getElem?_cons_succ] at v0
      obtain ⟨c, hc⟩ : ∃ c, c = cellOf H s := ⟨_, rfl⟩
      rw [← hc] at hlk hfd
      have hco : c.2 < 18446744073709551616 := by rw [hc]; exact (cellOf_canon HH.out s).1
      replace hlk : (Instr.lookup 59 (.map (some mc)) (.string s) false).run Try.prog (Lib.bytesWorld wr 5 s) = .ok (.agg #[.bool c.1, .float .f64 c.2]) (Lib.bytesWorld wr 5 s) := hlk
      have hfl := field_val c.1 c.2
      have HCC := Lib.hid hc
      have HFB := Lib.hid (HG.out.trans hFb)
      have HRD := Lib.hid hrd
      have HSZ := Lib.hid hsz
      have hcap : s.size ≤ grownCap wr s.size 0 5 := grownCap_ge _ _ _ _
      have HCAP := Lib.hid hcap
      clear hV hVb hc hrd hFb hs hfd hsz hcap
      generalize Lib.bytesWorld wr 5 s = wb at hlk v0 kb HFB HRD
      generalize grownCap wr s.size 0 5 = cap at kb HCAP
      generalize wr.heap.size = gx at kb HRD
      go_wp2_with fail
      refine (real_bits c.2 _).mono ?_
      rintro r w2 ⟨rfl, rfl⟩
      go_wp2_with fail
      have hle : (bytesOf s).length = s.size := bytesOf_length s
      have hcl : canonP c.2 < 18446744073709551616 := canon_lt hco
      have hwe := wire_eight (some ⟨gx, 0, none⟩) (bytesOf s) cap (canonP c.2) wb (by rw [hle]; exact HCAP.out) (by have := HRD.out; unfold RdB; rw [hle]; exact this) (by rw [hle]; have := HSZ.out; omega) hcl
      rw [hle] at hwe
      refine hwe.mono ?_
      rintro r w3 ⟨v3, rfl, hO3, hF3⟩
      obtain ⟨A3, c3, rfl, hR3⟩ := hO3.reads
      have HF3 := Lib.hid (HFB.out.trans hF3)
      have hl3 : (bytesOf s ++ be8 (canonP c.2)).length = s.size + 8 := by rw [List.length_append, hle]; rfl
      have HR3 := Lib.hid hR3
      have hby : Byt (bytesOf s ++ be8 (canonP c.2)) := (bytes_byt s).append (beTo_byt _ 8)
      have HBY := Lib.hid hby
      obtain ⟨xs, hxs⟩ : ∃ xs, xs = bytesOf s ++ be8 (canonP c.2) := ⟨_, rfl⟩
      rw [← hxs] at HR3 HBY hl3 ⊢
      have HXS := Lib.hid hxs
      have HL3 := Lib.hid hl3
      clear hO3 hF3 hR3 hwe hby hxs hl3 hle hcl
      go_wp2_with fail
      refine (dig_of A3 xs c3 w3 HR3.out HBY.out (by have := HL3.out; have := HSZ.out; omega)).mono ?_
      rintro r w4 ⟨rfl, rfl⟩
      go_wp2_with fail
      have ho : dOf xs = oneV H s := by rw [HXS.out, HCC.out]; rfl
      rw [ho]
      have hol : oneV H s < 18446744073709551616 := dOf_lt _
      have HOL := Lib.hid hol
      clear hol ho
      refine (dig_mix (digV H (ks.take k)) (oneV H s) w3 (digV_lt _ _) HOL.out).mono ?_
      rintro r w5 ⟨rfl, rfl⟩
      have hsn : dOf (be8 (digV H (ks.take k)) ++ be8 (oneV H s)) = digV H (ks.take (k + 1)) := by rw [HTK.out, digV_snoc]; rfl
      rw [hsn]
      clear hsn
      go_wp2_with fail
      go_roundw
      case rel => exact ⟨k + 1, by omega, by go_num, rfl, HF3.out⟩
      case measure => simp [intOf]; omega
    · obtain rfl : k = ks.length := by omega
      have tkk : decide (ks.length < ks.length) = false := decide_eq_false (by omega)
      rw [List.take_length]
      go_wp2_with fail
      go_ret
      exact ⟨ks, HK.out, rfl, HF1.out.trans HG.out⟩
end Go.Proofs.Ytepfhcimmbkilaa
/- Vault.Twin: a vault with the same, in new memory. -/
namespace Go.Proofs.Ytepfhcimmbkilaa
open Go.RowKit
open Go.Proofs.YtepfhcimmbkilaaW.PrintWords

theorem vault_new' (w : World) : Calls Try.prog 6 #[] w fun r w' => ∃ g mc ml S, r = .returned (.pointer (some ⟨g, 0, none⟩)) ∧ VaultAt w' S g mc ml (fun _ => none) (fun _ => none) [] 0 ∧ (∀ k, S k ↔ k = mc ∨ k = ml ∨ k = g) ∧ (w.heap.size ≤ mc ∧ w.heap.size ≤ ml ∧ w.heap.size ≤ g) ∧ Fr (fun _ => False) w w' := by
  have h1 := ((MapIn.new strE cellV w).alloc (.map #[] 0)).alloc (.cells #[.map (some w.heap.size), .map (some (w.heap.size + 1)), .int .i64 0] 62)
  have h2 := (MapIn.new strE hdrV (w.alloc (.map #[] 0))).alloc (.cells #[.map (some w.heap.size), .map (some (w.heap.size + 1)), .int .i64 0] 62)
  have h3 := Blk.new ((w.alloc (.map #[] 0)).alloc (.map #[] 0)) 62 #[.map (some w.heap.size), .map (some (w.heap.size + 1)), .int .i64 0]
  have hF := (((Fr.refl (fun _ => False) w).alloc (.map #[] 0)).alloc (.map #[] 0)).alloc (.cells #[.map (some w.heap.size), .map (some (w.heap.size + 1)), .int .i64 0] 62)
  rw [World.size_alloc] at h2
  rw [World.size_alloc, World.size_alloc] at h3
  have hmm := @run_makeMap Try.prog
  go_enter Try.func6, Try.ntmps6
  go_wp2_with fail
  go_ret
  refine ⟨_, w.heap.size, w.heap.size + 1, fun k => k = w.heap.size ∨ k = w.heap.size + 1 ∨ k = w.heap.size + 1 + 1, rfl, ⟨h3, ⟨.inr (.inr rfl), .inl rfl, .inr (.inl rfl)⟩, by omega, h1, fun k => rfl, h2, ⟨fun k h hk => (by cases hk), fun k _ => rfl, fun k k' h h' b hk => (by cases hk)⟩, ?_⟩, fun k => Iff.rfl, ⟨Nat.le_refl _, by omega, by omega⟩, hF⟩
  intro k hk
  simp only [World.size_alloc]
  omega
/-- A log that lies in memory of its own, put under its key. -/
theorem LogsAt.put {w w1 : World} {y : Nat} {Lh : ByteArray → Option Hdr} {H : List HE} (h : LogsAt w (fun b => y ≤ b ∧ b < w.heap.size) Lh (fun s => if (Lh s).isSome = true then logOf H s else [])) {key : ByteArray} {h1 : Hdr} {base : Nat}
    (hF : ∀ b, y ≤ b → b < w.heap.size → w1.heap[b]? = w.heap[b]?) (hs : w.heap.size ≤ w1.heap.size) (hb : w.heap.size ≤ base) (hy : y ≤ base)
    (hR : wrK.R 67 w1 base (fun b => base ≤ b) (hdrV h1) (logOf H key)) :
    LogsAt w1 (fun b => y ≤ b ∧ b < w1.heap.size) (fun x => if x = key then some h1 else Lh x) (fun s => if ((if s = key then some h1 else Lh s) : Option Hdr).isSome = true then logOf H s else []) := by
  refine ⟨fun k h' hk => ?_, fun k hk => ?_, fun k k' h' h'' b hk hk' hb1 hb2 => ?_⟩
  · by_cases hkk : k = key
    · subst hkk
      rw [if_pos rfl] at hk
      cases hk
      simp only [if_pos, Option.isSome_some]
      exact Kd.R_mono (Kd.R_bound (Kd.R_lower hR (Nat.zero_le _))) (fun b hb' => ⟨Nat.le_trans hy hb'.1, hb'.2.2.1⟩)
    · rw [if_neg hkk] at hk
      have h0 := h.row k h' hk
      rw [if_pos (by rw [hk]; rfl)] at h0
      simp only [if_neg hkk, hk, Option.isSome_some, if_true]
      exact Kd.R_mono (Kd.R_step h0 (fun b hb' hl => hF b hb'.1 hb'.2)) (fun b hb' => ⟨hb'.1, Nat.lt_of_lt_of_le hb'.2 hs⟩)
  · by_cases hkk : k = key
    · rw [if_pos hkk] at hk; cases hk
    · rw [if_neg hkk] at hk
      simp only [if_neg hkk, hk]
      rfl
  · have old : ∀ k h' b, k ≠ key → (if k = key then some h1 else Lh k) = some h' → (hdrV h').ownBlock = some b → b < w.heap.size := fun k h' b hkk hk hb' => by
      rw [if_neg hkk] at hk
      exact ((h.row k h' hk).1 b hb').2
    have new : ∀ k h' b, k = key → (if k = key then some h1 else Lh k) = some h' → (hdrV h').ownBlock = some b → base ≤ b := fun k h' b hkk hk hb' => by
      rw [if_pos hkk] at hk
      cases hk
      exact hR.1 b hb'
    by_cases hkk : k = key <;> by_cases hkk' : k' = key
    · rw [hkk, hkk']
    · have h1' := new k h' b hkk hk hb1
      have h2' := old k' h'' b hkk' hk' hb2
      omega
    · have h1' := new k' h'' b hkk' hk' hb2
      have h2' := old k h' b hkk hk hb1
      omega
    · rw [if_neg hkk] at hk
      rw [if_neg hkk'] at hk'
      exact h.apart k k' h' h'' b hk hk' hb1 hb2
theorem isSome_none {α : Type} {o : Option α} (h : ¬ o.isSome = true) : o = none := by cases o; rfl; exact absurd rfl h
set_option maxRecDepth 100000 in
set_option maxHeartbeats 8000000 in
theorem vault_twin (g m : Nat) (S : Nat → Prop) (H : List HE) (w : World) (h : VaultRep w S g H m) (hHl : H.length ≤ 1000000000) :
    Calls Try.prog 7 #[.pointer (some ⟨g, 0, none⟩)] w fun r w' => ∃ g' S', r = .returned (.pointer (some ⟨g', 0, none⟩)) ∧ VaultRep w' S' g' H m ∧ (∀ b, S' b → w.heap.size ≤ b) ∧ Fr (fun _ => False) w w' := by
  obtain ⟨mc, ml, F, Lh, hV⟩ := h
  have HV := Lib.hid hV
  clear hV
  go_enter Try.func7, Try.ntmps7
  go_wp2_with fail
  refine (vault_new' w).mono ?_
  rintro r w1 ⟨g', mc', ml', S0, rfl, hV0, hS0, hge, hF1⟩
  have HGE := Lib.hid hge
  have hV1 := HV.out.fr hF1 (fun _ _ h => h)
  have hF2 : Fr (fun b => b = g') w1 (w1.setCell ⟨g', 2, none⟩ (.int .i64 (m : Int))) := (Fr.refl (fun b => b = g') w1).setCell (p := ⟨g', 2, none⟩) (.inl rfl) _
  have hV2 := hV1.fr hF2 (fun b hb e => by have h1 := HV.out.lt b hb; have h2 := hge; omega)
  have hB2 := hV0.blk.set_ 2 (.int .i64 (m : Int))
  have hC2 := hV0.cells.fr hF2 (fun e => hV0.cells.ne_blk hV0.blk e.symm)
  have hL2 := hV0.logs.fr hF2 (fun e => hV0.logs.ne_blk hV0.blk e.symm)
  obtain ⟨W3, cnt0, hrange, hit0, hFr3, hsz3⟩ := hV2.cells.range (t := 59) rfl
  have hsz : (w1.setCell ⟨g', 2, none⟩ (.int .i64 (m : Int))).heap.size = w1.heap.size := by simp [World.setCell]
  rw [hsz] at hrange hit0
  have v2 := hV1.blk.cell 2
  have v0 := hV2.blk.cell 0
  have x2 := hV0.blk.cell 2
  have xf := hV0.blk.frozen
  simp only [List.getElem?_toArray, List.getElem?_cons_zero, List.getElem?_cons_succ] at v0 v2 x2
  have HV3 := Lib.hid (hV2.fr hFr3 (fun _ _ h => h))
  have HB3 := Lib.hid (show Blk W3 g' 62 #[.map (some mc'), .map (some ml'), .int .i64 (m : Int)] from hB2.fr hFr3 (fun h => h))
  have HC3 := Lib.hid (hC2.fr hFr3 (fun h => h))
  have HL3 := Lib.hid (hL2.fr hFr3 (fun h => h))
  have HI3 := Lib.hid hit0
  have HF3 := Lib.hid ((hF1.trans' hF2 (fun i hi e => by have := hge; omega)).trans hFr3)
  have HMC := Lib.hid hV0.cells.lt
  have HML := Lib.hid hV0.logs.lt
  have HGL := Lib.hid hV0.blk.lt
  have HNE := Lib.hid hV0.ne
  have HS0 := Lib.hid hS0
  have HSZ := Lib.hid hF1.size
  obtain ⟨q, hq⟩ : ∃ q, q = w1.heap.size := ⟨_, rfl⟩
  rw [← hq] at hrange HI3 HMC HML HGL
  have HQ := Lib.hid hq
  clear hV0 hS0 hge hF1 hV1 hF2 hV2 hB2 hC2 hL2 hit0 hFr3 hsz3 hsz hq
  go_wp2_with fail
  go_loopw [4] (fun _ wr => ∃ (left : ByteArray → Prop) (cnt : Nat) (F1 : ByteArray → Option CellD), MapIt strE cellV wr mc q F left cnt ∧ MapIn strE cellV wr mc' F1 ∧ (∀ s, left s → F1 s = none) ∧ (∀ s, ¬ left s → F1 s = F s) ∧ Blk wr g' 62 #[.map (some mc'), .map (some ml'), .int .i64 (m : Int)] ∧ MapIn strE hdrV wr ml' (fun _ => none) ∧ VaultAt wr S g mc ml F Lh H m ∧ Fr (fun _ => False) w wr) (fun _ wr => wr.rangeLeft mc q)
  case atStart => exact ⟨_, _, _, HI3.out, HC3.out, fun _ _ => rfl, fun s hn => (isSome_none hn).symm, HB3.out, HL3.out, HV3.out, HF3.out⟩
  case round =>
    clear HV3 HB3 HC3 HL3 HI3 HF3
    obtain ⟨left, cnt, F1, hit, hM, hf1, hf2, hB, hL, hVr, hG⟩ := hrel
    have HIT := Lib.hid hit
    have HM := Lib.hid hM
    have HF1 := Lib.hid hf1
    have HF2 := Lib.hid hf2
    have HB := Lib.hid hB
    have HL := Lib.hid hL
    have HVr := Lib.hid hVr
    have HG := Lib.hid hG
    clear hM hf1 hf2 hB hL hVr hG
    rcases hit.next 0 with ⟨hno, hnext⟩ | ⟨a, c9, w2, cnt1, hok, hla, hfa, hnext, hit1, hlt1, hFn, hszn, hen⟩
    · have hFF : F1 = F := funext fun s => HF2.out s (hno s)
      have HMF := Lib.hid (show MapIn strE cellV wr mc' F from by rw [← hFF]; exact HM.out)
      obtain ⟨W5, cnt5, hrange5, hit5, hFr5, hsz5⟩ := HVr.out.logs.range (t := 60) rfl
      have v1 := HVr.out.blk.cell 1
      simp only [List.getElem?_toArray, List.getElem?_cons_zero, List.getElem?_cons_succ] at v1
      have HV5 := Lib.hid (HVr.out.fr hFr5 (fun _ _ h => h))
      have HB5 := Lib.hid (HB.out.fr hFr5 (fun h => h))
      have HM5 := Lib.hid (HMF.out.fr hFr5 (fun h => h))
      have HL5 := Lib.hid (HL.out.fr hFr5 (fun h => h))
      have HI5 := Lib.hid hit5
      have HG5 := Lib.hid (HG.out.trans hFr5)
      obtain ⟨q2, hq2⟩ : ∃ q2, q2 = wr.heap.size := ⟨_, rfl⟩
      rw [← hq2] at hrange5 HI5 hsz5
      have HQ2 := Lib.hid (show q < q2 ∧ w1.heap.size ≤ q2 from by have h1 := hit.lt; have h2 := HQ.out; omega)
      have HS5 := Lib.hid hsz5
      clear hit hno hFF hit5 hFr5 HM HF1 HF2 HMF HL HVr HG HB hsz5 hq2
      go_wp2_with fail
      go_loopw [6] (fun _ wr => ∃ (left : ByteArray → Prop) (cnt : Nat) (L1 : ByteArray → Option Hdr), MapIt strE hdrV wr ml q2 Lh left cnt ∧ MapIn strE hdrV wr ml' L1 ∧ LogsAt wr (fun b => q2 + 1 ≤ b ∧ b < wr.heap.size) L1 (fun s => if (L1 s).isSome = true then logOf H s else []) ∧ (∀ s, (L1 s).isSome = true ↔ (Lh s).isSome = true ∧ ¬ left s) ∧ Blk wr g' 62 #[.map (some mc'), .map (some ml'), .int .i64 (m : Int)] ∧ MapIn strE cellV wr mc' F ∧ VaultAt wr S g mc ml F Lh H m ∧ q2 + 1 ≤ wr.heap.size ∧ Fr (fun _ => False) w wr) (fun _ wr => wr.rangeLeft ml q2)
      case atStart => exact ⟨_, _, _, HI5.out, HL5.out, ⟨fun k h hk => (by cases hk), fun k _ => rfl, fun k k' h h' b hk => (by cases hk)⟩, fun s => ⟨fun h => (by cases h), fun h => absurd h.1 h.2⟩, HB5.out, HM5.out, HV5.out, by rw [HS5.out]; exact Nat.le_refl _, HG5.out⟩
      case round =>
        clear HV5 HB5 HM5 HL5 HI5 HG5
        obtain ⟨left, cnt, L1, hit, hM, hlg, hls, hB, hC, hVr, hqs, hG⟩ := hrel
        have HIT := Lib.hid hit
        have HM := Lib.hid hM
        have HLG := Lib.hid hlg
        have HLS := Lib.hid hls
        have HB := Lib.hid hB
        have HC := Lib.hid hC
        have HVr := Lib.hid hVr
        have HQS := Lib.hid hqs
        have HG := Lib.hid hG
        clear hM hlg hls hB hC hVr hqs hG
        rcases hit.next 0 with ⟨hno, hnext⟩ | ⟨a, h9, w2, cnt1, hok, hla, hfa, hnext, hit1, hlt1, hFn, hszn, hen⟩
        · have HNO := Lib.hid hno
          clear hit hno
          go_wp2_with fail
          go_ret
          have h2 := HGE.out
          have h3 := HQ2.out
          have h4 := HQ.out
          have h5 := HSZ.out
          have hG' : (fun s => if (L1 s).isSome = true then logOf H s else []) = logOf H := funext fun s => by
            by_cases hs : (L1 s).isSome = true
            · rw [if_pos hs]
            · rw [if_neg hs]
              have hn : (Lh s) = none := isSome_none (fun h => hs ((HLS.out s).2 ⟨h, HNO.out s⟩))
              exact (HVr.out.log.none_ s hn).symm
          have hlg := HLG.out
          rw [hG'] at hlg
          refine ⟨g', fun b => S0 b ∨ (q2 + 1 ≤ b ∧ b < wr.heap.size), rfl, ⟨mc', ml', F, L1, HB.out, ⟨.inl ((HS0.out _).2 (.inr (.inr rfl))), .inl ((HS0.out _).2 (.inl rfl)), .inl ((HS0.out _).2 (.inr (.inl rfl)))⟩, HNE.out, HC.out, HVr.out.cell, HM.out, ⟨fun k h hk => Kd.R_mono (hlg.row k h hk) (fun b hb => .inr hb), hlg.none_, hlg.apart⟩, fun k hk => ?_⟩, fun b hb => ?_, HG.out⟩
          · rcases hk with hk | hk
            · have h7 := HMC.out
              have h8 := HML.out
              have h9 := HGL.out
              have h10 := HQS.out
              rcases (HS0.out k).1 hk with rfl | rfl | rfl <;> omega
            · exact hk.2
          · rcases hb with hb | hb
            · rcases (HS0.out b).1 hb with rfl | rfl | rfl <;> omega
            · omega
        · obtain ⟨A9, n9, c9⟩ := h9
          have hFn' : Fr (fun _ => False) w w2 := HG.out.trans' hFn (fun i hi e => by have h1 := HQ2.out; have h2 := HSZ.out; omega)
          have h2 := HGE.out
          have h3 := HQ2.out
          have h4 := HQ.out
          have h5 := HSZ.out
          have h6 := HMC.out
          have h7 := HML.out
          have h8 := HGL.out
          have hVn := HVr.out.fr hFn (fun b hb e => by have h1 := HV.out.lt b hb; omega)
          have hBn := HB.out.fr hFn (by omega)
          have hMn := HM.out.fr hFn (by omega)
          have hCn := HC.out.fr hFn (by omega)
          have hRn := hVn.log.row a _ hfa
          obtain ⟨A9', c9', he9⟩ := Kd.R_slice hRn
          have hn9 : n9 = (logOf H a).length := by injection he9
          subst hn9
          have hCx := (Kd.R_reads' hRn).2.2
          have hbk : ∀ b, q2 + 1 ≤ b → b < wr.heap.size → w2.heap[b]? = wr.heap[b]? := fun b hb hl => hFn.block b hl (by omega)
          have hszw : wr.heap.size = w2.heap.size := hszn.symm
          have HBK := Lib.hid hbk
          have HSW := Lib.hid hszw
          have HVn := Lib.hid hVn
          have HBn := Lib.hid hBn
          have HMn := Lib.hid hMn
          have HCn := Lib.hid hCn
          have HCx := Lib.hid hCx
          have HFn := Lib.hid hFn'
          have HI1 := Lib.hid hit1
          have HLA := Lib.hid hla
          have HFA := Lib.hid hfa
          have HLT := Lib.hid hlt1
          have HOK := Lib.hid hok
          have hll := logOf_len H a
          have HLL := Lib.hid hll
          replace hen : (Instr.entry (.pointer (some ⟨q2, 0, none⟩))).run Try.prog w2 = .ok (.tuple #[.string a, .slice A9 (logOf H a).length c9]) w2 := hen
          replace hnext : (Instr.next (.pointer (some ⟨q2, 0, none⟩)) false 0).run Try.prog wr = .ok (.tuple #[.bool true, .string a, .slice A9 (logOf H a).length c9]) w2 := hnext
          clear hFn hFn' hVn hBn hMn hCn hRn he9 hCx hbk hszw hit hit1 hla hfa hlt1 hszn h2 h3 h4 h5 h6 h7 h8 hll
          have hBd := HBn.out.drew
          obtain ⟨St, hSt⟩ : ∃ St : World → Prop, St = Fr (fun _ => False) w2.drew := ⟨_, rfl⟩
          have HT := Lib.hid (show ∀ w', Fr (fun _ => False) w2.drew w' → At St w' from fun w' h => by unfold At; rw [hSt]; exact h)
          have lift : ∀ (q : Addr) (u : Value), w2.drew.cell? q = some u → ∀ w', At St w' → w'.cell? q = some u := fun q u hq w' h => by replace h := h.out; rw [hSt] at h; exact h.cell hq (fun h => h)
          have l1 := lift ⟨g', 1, none⟩ _ (hBd.cell 1)
          have hT0 := HT.out w2.drew (Fr.refl _ _)
          clear lift hSt hBd
          go_wp2_with fail
          refine rt_start [8] (At St) 9 (by kernel_rfl) rfl ?_
          refine rt_free 0 (v := ?_) rfl (by kernel_rfl) (by kernel_rfl) (by kernel_rfl) (by kernel_rfl) (fun _ _ _ h => h) (by rfl) (fun _ => by first | assumption | exact HS0 _ rfl | exact HT.out _ (by repeat (first | exact Fr.refl _ _ | apply Fr.drew | refine Fr.alloc ?_ _))) ?_ ?_
          rotate_left 1
          · intro w; go_simp <;> with_reducible rfl
          try simp only [Act.put, List.setIfInBounds_toArray, List.set_cons_zero, List.set_cons_succ]
          refine rt_free 1 (v := ?_) rfl (by kernel_rfl) (by kernel_rfl) (by kernel_rfl) (by kernel_rfl) (fun _ _ _ h => h) (by rfl) (fun _ => by first | assumption | exact HS0 _ rfl | exact HT.out _ (by repeat (first | exact Fr.refl _ _ | apply Fr.drew | refine Fr.alloc ?_ _))) ?_ ?_
          rotate_left 1
          · intro w; go_simp <;> with_reducible rfl
          try simp only [Act.put, List.setIfInBounds_toArray, List.set_cons_zero, List.set_cons_succ]
          refine rt_free 2 (v := ?_) rfl (by kernel_rfl) (by kernel_rfl) (by kernel_rfl) (by kernel_rfl) (fun _ _ _ h => h) (by rfl) (fun _ => by first | assumption | exact HS0 _ rfl | exact HT.out _ (by repeat (first | exact Fr.refl _ _ | apply Fr.drew | refine Fr.alloc ?_ _))) ?_ ?_
          rotate_left 1
          · intro w; go_simp <;> with_reducible rfl
          try simp only [Act.put, List.setIfInBounds_toArray, List.set_cons_zero, List.set_cons_succ]
          refine rt_take 3 (v := ?_) rfl (by kernel_rfl) (by kernel_rfl) (by kernel_rfl) (by kernel_rfl) (fun _ _ _ h => h) (by rfl) (by first | assumption | exact HS0 _ rfl | exact HT.out _ (by repeat (first | exact Fr.refl _ _ | apply Fr.drew | refine Fr.alloc ?_ _))) ?_ ?_
          rotate_left 1
          · intro w hSw; go_simp <;> with_reducible rfl
          try simp only [Act.put, List.setIfInBounds_toArray, List.set_cons_zero, List.set_cons_succ]
          refine rt_free 4 (v := ?_) rfl (by kernel_rfl) (by kernel_rfl) (by kernel_rfl) (by kernel_rfl) (fun _ _ _ h => h) (by rfl) (fun _ => by first | assumption | exact HS0 _ rfl | exact HT.out _ (by repeat (first | exact Fr.refl _ _ | apply Fr.drew | refine Fr.alloc ?_ _))) ?_ ?_
          rotate_left 1
          · intro w; go_simp <;> with_reducible rfl
          try simp only [Act.put, List.setIfInBounds_toArray, List.set_cons_zero, List.set_cons_succ]
          refine rt_free 6 (v := ?_) rfl (by kernel_rfl) (by kernel_rfl) (by kernel_rfl) (by kernel_rfl) (fun _ _ _ h => h) (by rfl) (fun _ => by first | assumption | exact HS0 _ rfl | exact HT.out _ (by repeat (first | exact Fr.refl _ _ | apply Fr.drew | refine Fr.alloc ?_ _))) ?_ ?_
          rotate_left 1
          · intro w; go_simp <;> with_reducible rfl
          try simp only [Act.put, List.setIfInBounds_toArray, List.set_cons_zero, List.set_cons_succ]
          refine rt_one 5 rfl (by kernel_rfl) (fun K hK => ?_)
          go_simp
          refine hK.out (At St) _ _ (fun _ h => h) (fun _ => by (exact HT.out _ ((Fr.refl _ _).alloc _))) ?_
          clear hK K
          try simp only [Act.put, List.setIfInBounds_toArray, List.set_cons_zero, List.set_cons_succ]
          refine rt_one 7 rfl (by kernel_rfl) (fun K hK => ?_)
          obtain ⟨A1, c1, w8, hr, hR1, hg1⟩ := app_flat (P := Try.prog) wrFlat (xs := logOf H a) (n := (logOf H a).length) (c := c9) (A := A9) 57 57 _ 24 Try.underlying57 info_wr rfl (by decide) (by decide) (R_empty wrK 67 w2.drew) (Kd.C_below HCx.out (((Fr.refl (fun _ => False) w2).drew.alloc _).below (fun _ _ h => h))) (fun k hk => by simp only [World.size_alloc] at hk; omega) (by simp) (by have := HLL.out; omega)
          refine step_builtin2 rfl rfl rfl rfl (bi_append hr) ?_
          have hF8 : Fr (fun _ => False) w2 w8 := (((Fr.refl (fun _ => False) w2).drew.alloc (.cells #[] 67)).trans' (Fr.of_grown hg1) (fun i hi h => by have hd : w2.drew.heap.size = w2.heap.size := rfl; have h := (Option.some.inj (show some i = some w2.drew.heap.size from h)); omega))
          have hF8' : Fr (fun _ => False) w2.drew w8 := (((Fr.refl (fun _ => False) w2.drew).alloc (.cells #[] 67)).trans' (Fr.of_grown hg1) (fun i hi h => by have hd : w2.drew.heap.size = w2.heap.size := rfl; have h := (Option.some.inj (show some i = some w2.drew.heap.size from h)); omega))
          have hT8 := HT.out _ hF8'
          obtain ⟨W9, hrun9, hM9, hF9, hs9⟩ := (HMn.out.fr hF8 (fun h => h)).update (t := 60) (et := 57) Try.underlying60 (a := a) HOK.out ((A1, (logOf H a).length, c1) : Hdr)
          have hrun9' : (Instr.mapUpdate 60 (.map (some ml')) (.string a) (.slice A1 (logOf H a).length c1)).run Try.prog w8 = .ok () W9 := hrun9
          clear hrun9
          refine hK.out (At St) _ _ (fun _ h => h) (fun _ => by (assumption)) ?_
          clear hK K
          try simp only [Act.put, List.setIfInBounds_toArray, List.set_cons_zero, List.set_cons_succ]
          refine rt_one 8 rfl (by kernel_rfl) (fun K hK => ?_)
          go_simp
          refine hK.out (At St) _ _ (fun _ h => h) (late_abs (by kernel_rfl)) ?_
          clear hK K
          try simp only [Act.put, List.setIfInBounds_toArray, List.set_cons_zero, List.set_cons_succ]
          refine rt_done (by kernel_rfl) ?_
          have HF8 := Lib.hid hF8
          have HF9 := Lib.hid hF9
          have HM9 := Lib.hid hM9
          have HR1 := Lib.hid hR1
          have HS9 := Lib.hid hs9
          clear l1 hT0 hT8 hrun9' hF8 hF8' hM9 hF9 hR1 hg1 hr hs9
          go_wp2_with fail
          go_roundw
          case rel =>
            have h2 := HGE.out
            have h3 := HQ2.out
            have h4 := HQ.out
            have h5 := HSZ.out
            have h6 := HMC.out
            have h7 := HML.out
            have h8 := HGL.out
            have h9 := HQS.out
            have h10 := HSW.out
            have h11 := HF8.out.size
            have h12 := HS9.out
            have hd : w2.drew.heap.size = w2.heap.size := rfl
            have hFw : Fr (fun b => b = ml') w2 W9 := (HF8.out.mono (S' := fun b => b = ml') (fun _ _ h => h.elim)).trans HF9.out
            refine ⟨_, _, _, HI1.out.fr hFw (fun e => ?_) (by omega), HM9.out, ?_, fun s => ?_, HBn.out.fr hFw (fun e => ?_), HCn.out.fr hFw (fun e => ?_), HVn.out.fr hFw (fun b hb e => ?_), by omega, (HFn.out.trans HF8.out).trans' HF9.out (fun i hi e => by omega)⟩
            · have h1 := HV.out.lt ml HV.out.own.2.2; omega
            · refine LogsAt.put (base := w2.heap.size) HLG.out (fun b hb hl => ?_) (by omega) (by omega) (by omega) ?_
              · rw [HF9.out.block b (by omega) (by omega), HF8.out.block b (by omega) (fun h => h)]
                exact HBK.out b hb hl
              · refine Kd.R_step HR1.out (fun b hb hl => HF9.out.block b hl (fun e => ?_))
                have h1 : w2.heap.size ≤ b := hb
                omega
            · by_cases hs : s = a
              · subst hs
                simp only [if_pos, Option.isSome_some, true_iff]
                exact ⟨by rw [HFA.out]; rfl, fun h => h.2 rfl⟩
              · rw [if_neg hs, HLS.out s]
                exact ⟨fun h => ⟨h.1, fun hl => h.2 hl.1⟩, fun h => ⟨h.1, fun hl => h.2 ⟨hl, hs⟩⟩⟩
            · exact (HMn.out.ne_blk HBn.out) e
            · exact HNE.out e
            · have h1 := HV.out.lt b hb; omega
          case measure =>
            have h4 := HQ.out
            have h6 := HMC.out
            have h7 := HML.out
            have h3 := HQ2.out
            have h2 := HGE.out
            have hFw : Fr (fun b => b = ml') w2 W9 := (HF8.out.mono (S' := fun b => b = ml') (fun _ _ h => h.elim)).trans HF9.out
            rw [(HI1.out.fr hFw (fun e => by have h1 := HV.out.lt ml HV.out.own.2.2; omega) (by omega)).left_eq, HIT.out.left_eq]
            exact HLT.out
    · obtain ⟨f, y⟩ := c9
      have h2 := HGE.out
      have h4 := HQ.out
      have h5 := HSZ.out
      have h6 := HMC.out
      have h7 := HML.out
      have h8 := HGL.out
      have hFn' : Fr (fun _ => False) w w2 := HG.out.trans' hFn (fun i hi e => by omega)
      have hA4 : Fr (fun _ => False) w2 (w2.alloc (.cells #[.bool f, .float .f64 y] 53)) := (Fr.refl _ _).alloc _
      have hVn := (HVr.out.fr hFn (fun b hb e => by have h1 := HV.out.lt b hb; omega)).fr hA4 (fun _ _ h => h)
      have hBn := (HB.out.fr hFn (by omega)).fr hA4 (fun h => h)
      have hMn := (HM.out.fr hFn (by omega)).fr hA4 (fun h => h)
      have hLn := (HL.out.fr hFn (by omega)).fr hA4 (fun h => h)
      have hXn := Blk.new w2 53 #[.bool f, .float .f64 y]
      have hIn := hit1.fr hA4 (fun h => h) (fun h => h)
      have hxq : q < w2.heap.size := hit1.lt
      obtain ⟨W4, hW4⟩ : ∃ W, W = w2.alloc (.cells #[.bool f, .float .f64 y] 53) := ⟨_, rfl⟩
      have HFn := Lib.hid (hFn'.trans hA4)
      rw [← hW4] at hVn hBn hMn hLn hXn hIn HFn
      have HVn := Lib.hid hVn
      have HBn := Lib.hid hBn
      have HMn := Lib.hid hMn
      have HLn := Lib.hid hLn
      have HXn := Lib.hid hXn
      have HIn := Lib.hid hIn
      have HLA := Lib.hid hla
      have HFA := Lib.hid hfa
      have HLT := Lib.hid hlt1
      obtain ⟨W6, hrun, hM6, hF6, hs6⟩ := (hMn.drew).update (t := 59) (et := 53) Try.underlying59 (a := a) hok (f, y)
      have hrun' : (Instr.mapUpdate 59 (.map (some mc')) (.string a) (.agg #[.bool f, .float .f64 y])).run Try.prog W4.drew = .ok () W6 := hrun
      replace hen : (Instr.entry (.pointer (some ⟨q, 0, none⟩))).run Try.prog w2 = .ok (.tuple #[.string a, .agg #[.bool f, .float .f64 y]]) w2 := hen
      replace hnext : (Instr.next (.pointer (some ⟨q, 0, none⟩)) false 0).run Try.prog wr = .ok (.tuple #[.bool true, .string a, .agg #[.bool f, .float .f64 y]]) w2 := hnext
      have HM6 := Lib.hid hM6
      have HF6 := Lib.hid hF6
      have hBd := hBn.drew
      have hXd := hXn.drew
      obtain ⟨St, hSt⟩ : ∃ St : World → Prop, St = Fr (fun _ => False) W4.drew := ⟨_, rfl⟩
      have HT := Lib.hid (show ∀ w', Fr (fun _ => False) W4.drew w' → At St w' from fun w' h => by unfold At; rw [hSt]; exact h)
      have lift : ∀ (q : Addr) (u : Value), W4.drew.cell? q = some u → ∀ w', At St w' → w'.cell? q = some u := fun q u hq w' h => by replace h := h.out; rw [hSt] at h; exact h.cell hq (fun h => h)
      have l0 := lift ⟨g', 0, none⟩ _ (hBd.cell 0)
      have l4 := lift ⟨w2.heap.size, 0, none⟩ _ (hXd.cell 0)
      have l5 := lift ⟨w2.heap.size, 1, none⟩ _ (hXd.cell 1)
      have hT0 := HT.out W4.drew (Fr.refl _ _)
      have HW4 := Lib.hid hW4
      clear lift hSt hBd hXd hFn hFn' hA4 hVn hBn hMn hLn hXn hIn hit hit1 hla hfa hlt1 hszn h2 h4 h5 h6 h7 h8 hrun hM6 hF6 hs6 hW4 hxq
      go_wp2_with fail
      rw [← HW4.out]
      refine rt_start [6] (At St) 7 (by kernel_rfl) rfl ?_
      refine rt_free 0 (v := ?_) rfl (by kernel_rfl) (by kernel_rfl) (by kernel_rfl) (by kernel_rfl) (fun _ _ _ h => h) (by rfl) (fun _ => by first | assumption | exact HS0 _ rfl | exact HT.out _ (by repeat (first | exact Fr.refl _ _ | apply Fr.drew | refine Fr.alloc ?_ _))) ?_ ?_
      rotate_left 1
      · intro w; go_simp <;> with_reducible rfl
      try simp only [Act.put, List.setIfInBounds_toArray, List.set_cons_zero, List.set_cons_succ]
      refine rt_free 1 (v := ?_) rfl (by kernel_rfl) (by kernel_rfl) (by kernel_rfl) (by kernel_rfl) (fun _ _ _ h => h) (by rfl) (fun _ => by first | assumption | exact HS0 _ rfl | exact HT.out _ (by repeat (first | exact Fr.refl _ _ | apply Fr.drew | refine Fr.alloc ?_ _))) ?_ ?_
      rotate_left 1
      · intro w; go_simp <;> with_reducible rfl
      try simp only [Act.put, List.setIfInBounds_toArray, List.set_cons_zero, List.set_cons_succ]
      refine rt_free 2 (v := ?_) rfl (by kernel_rfl) (by kernel_rfl) (by kernel_rfl) (by kernel_rfl) (fun _ _ _ h => h) (by rfl) (fun _ => by first | assumption | exact HS0 _ rfl | exact HT.out _ (by repeat (first | exact Fr.refl _ _ | apply Fr.drew | refine Fr.alloc ?_ _))) ?_ ?_
      rotate_left 1
      · intro w; go_simp <;> with_reducible rfl
      try simp only [Act.put, List.setIfInBounds_toArray, List.set_cons_zero, List.set_cons_succ]
      refine rt_take 3 (v := ?_) rfl (by kernel_rfl) (by kernel_rfl) (by kernel_rfl) (by kernel_rfl) (fun _ _ _ h => h) (by rfl) (by first | assumption | exact HS0 _ rfl | exact HT.out _ (by repeat (first | exact Fr.refl _ _ | apply Fr.drew | refine Fr.alloc ?_ _))) ?_ ?_
      rotate_left 1
      · intro w hSw; go_simp <;> with_reducible rfl
      try simp only [Act.put, List.setIfInBounds_toArray, List.set_cons_zero, List.set_cons_succ]
      refine rt_free 4 (v := ?_) rfl (by kernel_rfl) (by kernel_rfl) (by kernel_rfl) (by kernel_rfl) (fun _ _ _ h => h) (by rfl) (fun _ => by first | assumption | exact HS0 _ rfl | exact HT.out _ (by repeat (first | exact Fr.refl _ _ | apply Fr.drew | refine Fr.alloc ?_ _))) ?_ ?_
      rotate_left 1
      · intro w; go_simp <;> with_reducible rfl
      try simp only [Act.put, List.setIfInBounds_toArray, List.set_cons_zero, List.set_cons_succ]
      refine rt_take 5 (v := ?_) rfl (by kernel_rfl) (by kernel_rfl) (by kernel_rfl) (by kernel_rfl) (fun _ _ _ h => h) (by rfl) (by first | assumption | exact HS0 _ rfl | exact HT.out _ (by repeat (first | exact Fr.refl _ _ | apply Fr.drew | refine Fr.alloc ?_ _))) ?_ ?_
      rotate_left 1
      · intro w hSw; go_simp <;> with_reducible rfl
      try simp only [Act.put, List.setIfInBounds_toArray, List.set_cons_zero, List.set_cons_succ]
      refine rt_one 6 rfl (by kernel_rfl) (fun K hK => ?_)
      go_simp
      refine hK.out (At St) _ _ (fun _ h => h) (late_abs (by kernel_rfl)) ?_
      clear hK K
      try simp only [Act.put, List.setIfInBounds_toArray, List.set_cons_zero, List.set_cons_succ]
      refine rt_done (by kernel_rfl) ?_
      clear l0 l4 l5 hT0 hrun'
      go_wp2_with fail
      go_roundw
      case rel =>
        have h4 := HQ.out
        have h6 := HMC.out
        have h7 := HML.out
        have h8 := HGL.out
        have h2 := HGE.out
        have hFw : Fr (fun b => b = mc') W4 W6 := (Fr.refl _ W4).drew.trans HF6.out
        refine ⟨_, _, _, HIn.out.fr hFw (fun e => ?_) (by omega), HM6.out, fun s hs => ?_, fun s hs => ?_, HBn.out.fr hFw (fun e => ?_), HLn.out.fr hFw (fun e => ?_), HVn.out.fr hFw (fun b hb e => ?_), HFn.out.trans' hFw (fun i hi e => by omega)⟩
        · have h1 := HV.out.lt mc HV.out.own.2.1; omega
        · rw [if_neg hs.2]
          exact HF1.out s hs.1
        · by_cases h : s = a
          · rw [if_pos h, h, HFA.out]
          · rw [if_neg h]
            exact HF2.out s (fun hl => hs ⟨hl, h⟩)
        · exact (HMn.out.ne_blk HBn.out) e
        · exact HNE.out e.symm
        · have h1 := HV.out.lt b hb; omega
      case measure =>
        have h4 := HQ.out
        have h6 := HMC.out
        have h2 := HGE.out
        have hFw : Fr (fun b => b = mc') W4 W6 := (Fr.refl _ W4).drew.trans HF6.out
        rw [(HIn.out.fr hFw (fun e => by have h1 := HV.out.lt mc HV.out.own.2.1; omega) (by omega)).left_eq, HIT.out.left_eq]
        exact HLT.out
end Go.Proofs.Ytepfhcimmbkilaa
/- within: whether all that a map has, another one has, too. -/
namespace Go.Proofs.Ytepfhcimmbkilaa
open Go.RowKit
open Go.Proofs.YtepfhcimmbkilaaW.PrintWords

set_option maxRecDepth 100000 in
set_option maxHeartbeats 4000000 in
theorem within_cell (m1 m2 : Nat) (f1 f2 : ByteArray → Option CellD) (w : World) (h1 : MapIn strE cellV w m1 f1) (h2 : MapIn strE cellV w m2 f2) (k1 : ∀ k c, f1 k = some c → CellOk c) (k2 : ∀ k c, f2 k = some c → CellOk c) :
    Calls Try.prog 34 #[.map (some m1), .map (some m2), .func (.func 35) #[] #[]] w fun r w' => r = .returned (.bool (cdec (∀ k c, f1 k = some c → absC c = absC ((f2 k).getD (false, 0))))) ∧ Fr (fun _ => False) w w' := by
  have H1 := Lib.hid h1
  have H2 := Lib.hid h2
  have K1 := Lib.hid k1
  have K2 := Lib.hid k2
  obtain ⟨w0, cnt0, hrange, hit0, hF0, hsz0⟩ := h1.range (t := 59) rfl
  have HI0 := Lib.hid hit0
  have HF0 := Lib.hid hF0
  clear h1 h2 k1 k2 hit0 hF0 hsz0
  go_enter Try.func34, Try.ntmps34
  go_wp2_with fail
  go_loopw [7] (fun u wr => ∃ (left : ByteArray → Prop) (cnt : Nat), MapIt strE cellV wr m1 w.heap.size f1 left cnt ∧ (∀ k c, f1 k = some c → ¬ left k → absC c = absC ((f2 k).getD (false, 0))) ∧ Fr (fun _ => False) w wr) (fun _ wr => wr.rangeLeft m1 w.heap.size)
  case atStart => exact ⟨_, _, HI0.out, fun k c h hn => absurd (by rw [h]; rfl) hn, HF0.out⟩
  case round =>
    obtain ⟨left, cnt, hit, hdone, hG⟩ := hrel
    have HG := Lib.hid hG
    have HD := Lib.hid hdone
    have HIT := Lib.hid hit
    clear hG hdone
    rcases hit.next 0 with ⟨hno, hnext⟩ | ⟨a, c, w1, cnt1, hok, hla, hfa, hnext, hit1, hlt1, hF1, hsz1, hen⟩
    · have HNO := Lib.hid hno
      clear hit hno
      go_wp2_with fail
      go_ret
      exact ⟨ret_bool (cdec_true fun k c h => HD.out k c h (HNO.out k)).symm, HG.out⟩
    · have HI1 := Lib.hid hit1
      have HG1 := Lib.hid (HG.out.trans' hF1 (fun i hi h => by omega))
      have HLA := Lib.hid hla
      have HFA := Lib.hid hfa
      have HLT := Lib.hid hlt1
      have hG1 := (HG1.out.alloc (.cells #[.bool c.1, .float .f64 c.2] 53))
      have HG2 := Lib.hid hG1
      have hlk := (H2.out.fr hG1 (fun h => h)).lookup (t := 59) (et := 53) Try.underlying59 (z := cellV (false, 0)) (zero_cell' _) (a := a) hok
      replace hlk : (Instr.lookup 59 (.map (some m2)) (.string a) false).run Try.prog (w1.alloc (.cells #[.bool c.1, .float .f64 c.2] 53)) = .ok (cellV ((f2 a).getD (false, 0))) (w1.alloc (.cells #[.bool c.1, .float .f64 c.2] 53)) := by
        rw [show cellV ((f2 a).getD (false, 0)) = (f2 a).elim (cellV (false, 0)) cellV from by cases f2 a <;> rfl]
        exact hlk
      have hok2 : CellOk ((f2 a).getD (false, 0)) := by
        cases hf2 : f2 a with
        | none => exact cell0_ok
        | some x => exact K2.out a x hf2
      have HOK2 := Lib.hid hok2
      clear hok2 hG1
      clear hit hla hfa hit1 hlt1 hF1
      replace hen : (Instr.entry (.pointer (some ⟨w.heap.size, 0, none⟩))).run Try.prog w1 = .ok (.tuple #[.string a, cellV c]) w1 := hen
      replace hnext : (Instr.next (.pointer (some ⟨w.heap.size, 0, none⟩)) false 0).run Try.prog wr = .ok (.tuple #[.bool true, .string a, cellV c]) w1 := hnext
      go_wp2_with fail
      refine (cell_same c ((f2 a).getD (false, 0)) _ (K1.out a c HFA.out) HOK2.out).mono ?_
      rintro r w2 ⟨rfl, hF2⟩
      have HG3 := Lib.hid (HG2.out.trans hF2)
      have HI2 := Lib.hid ((HI1.out.fr ((Fr.refl (fun _ => False) w1).alloc (.cells #[.bool c.1, .float .f64 c.2] 53)) (fun h => h) (fun h => h)).fr hF2 (fun h => h) (fun h => h))
      clear hF2
      by_cases hq : absC c = absC ((f2 a).getD (false, 0))
      · rw [decide_eq_true hq]
        have HQ := Lib.hid hq
        clear hq
        go_wp2_with fail
        go_roundw
        case rel =>
          refine ⟨_, _, HI2.out, fun k c' hk hn => ?_, HG3.out⟩
          by_cases hka : k = a
          · subst hka
            have h1 := HFA.out
            rw [hk] at h1
            cases h1
            exact HQ.out
          · exact HD.out k c' hk (fun h => hn ⟨h, hka⟩)
        case measure => rw [HI2.out.left_eq, HIT.out.left_eq]; exact HLT.out
      · rw [decide_eq_false hq]
        have HQ := Lib.hid hq
        clear hq
        go_wp2_with fail
        go_ret
        exact ⟨ret_bool (cdec_false fun h => HQ.out (h a c HFA.out)).symm, HG3.out⟩
end Go.Proofs.Ytepfhcimmbkilaa
