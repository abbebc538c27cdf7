/- Ledgers: what lies at one, New, Count, and what no ledger answers. -/
import Derived.Test.YtmfbcebbklimoaaMapR
import Derived.Test.YtmfbcebbklimoaaRecC
import Derived.Test.YtmfbcebbklimoaaInts
set_option linter.unusedVariables false
set_option linter.unusedSimpArgs false
namespace Go.Proofs.Ytmfbcebbklimoaa
open Go.RowKit
open Go.Proofs.YtmfbcebbklimoaaW.PrintWords

def errE : KEnc Try.prog 23 Int where
  enc := .int .i64
  ok := fun a => (Lit.int .i64 a).wf = true
  law := Maps.int_keyed Try.underlying23
  key := fun {a} h => ⟨_, Maps.keyOf_int_mk Try.underlying23 h⟩
  inj := fun h => by injection h
def cntV (n : Nat) : Value := .int .i64 n
/-- How often an answer was given; none where it never was. -/
def fE (E : List Int) (e : Int) : Option Nat := if E.count e = 0 then none else some (E.count e)
theorem fE_val (E : List Int) (e : Int) : (fE E e).elim (Value.int .i64 0) cntV = .int .i64 (E.count e : Nat) := by
  unfold fE
  split
  · rename_i h; rw [h]; rfl
  · rfl
theorem fE_snoc (E : List Int) (e : Int) : (fun x => if x = e then some (E.count e + 1) else fE E x) = fE (E ++ [e]) := by
  funext x
  unfold fE
  rw [List.count_append]
  by_cases h : x = e
  · subst h
    rw [if_pos rfl, List.count_singleton_self, if_neg (by omega)]
  · have h2 : (e == x) = false := by simpa using fun h' => h h'.symm
    rw [if_neg h, List.count_singleton, h2]
    simp
def errK : Kd Int := Kd.int .i64
structure LedAt (w : World) (S : Nat → Prop) (g mc : Nat) (vr va : Value) (E : List Int) (R : List Rec) : Prop where
  blk : Blk w g 47 #[.map (some mc), vr, va]
  own : S g ∧ S mc
  map : MapIn errE cntV w mc (fE E)
  recs : recK.R 33 w 0 (fun b => S b ∧ b ≠ mc ∧ b ≠ g) vr R
  ans : errK.R 23 w 0 (fun b => S b ∧ b ≠ mc ∧ b ≠ g) va E
  lt : ∀ b, S b → b < w.heap.size
  wf : ∀ e ∈ E, (Lit.int .i64 e).wf = true
def LedRep (w : World) (S : Nat → Prop) (g : Nat) (E : List Int) (R : List Rec) : Prop := ∃ mc vr va, LedAt w S g mc vr va E R
theorem LedAt.fr {w w' : World} {S T : Nat → Prop} {g mc : Nat} {vr va : Value} {E : List Int} {R : List Rec} (h : LedAt w S g mc vr va E R) (hF : Fr T w w') (hd : ∀ b, S b → ¬ T b) : LedAt w' S g mc vr va E R :=
  ⟨h.blk.fr hF (hd g h.own.1), h.own, h.map.fr hF (hd mc h.own.2), Kd.R_step h.recs (fun b hb hl => hF.block b hl (hd b hb.1)), Kd.R_step h.ans (fun b hb hl => hF.block b hl (hd b hb.1)), fun b hb => Nat.lt_of_lt_of_le (h.lt b hb) hF.size, h.wf⟩
theorem LedRep.fr {w w' : World} {S T : Nat → Prop} {g : Nat} {E : List Int} {R : List Rec} (h : LedRep w S g E R) (hF : Fr T w w') (hd : ∀ b, S b → ¬ T b) : LedRep w' S g E R := by
  obtain ⟨mc, vr, va, h⟩ := h
  exact ⟨mc, vr, va, h.fr hF hd⟩
theorem LedRep.lt {w : World} {S : Nat → Prop} {g : Nat} {E : List Int} {R : List Rec} (h : LedRep w S g E R) : ∀ b, S b → b < w.heap.size := by
  obtain ⟨mc, vr, va, h⟩ := h
  exact h.lt
theorem led_new' (w : World) : Calls Try.prog 5 #[] w fun r w' => ∃ g mc S, r = .returned (.pointer (some ⟨g, 0, none⟩)) ∧ LedAt w' S g mc (.slice none 0 0) (.slice none 0 0) [] [] ∧ (∀ b, S b ↔ b = mc ∨ b = g) ∧ w.heap.size ≤ mc ∧ w.heap.size ≤ g ∧ Fr (fun _ => False) w w' := by
  have h1 := (MapIn.new errE cntV w).alloc (.cells #[.map (some w.heap.size), .slice none 0 0, .slice none 0 0] 47)
  have h3 := Blk.new (w.alloc (.map #[] 0)) 47 #[.map (some w.heap.size), .slice none 0 0, .slice none 0 0]
  have hF := ((Fr.refl (fun _ => False) w).alloc (.map #[] 0)).alloc (.cells #[.map (some w.heap.size), .slice none 0 0, .slice none 0 0] 47)
  rw [World.size_alloc] at h3
  have hmm := @run_makeMap Try.prog
  go_enter Try.func5, Try.ntmps5
  go_wp2_with fail
  go_ret
  refine ⟨_, w.heap.size, fun k => k = w.heap.size ∨ k = w.heap.size + 1, rfl, ⟨h3, ⟨.inr rfl, .inl rfl⟩, h1, Kd.R_nil _ _ _ _ _, Kd.R_nil _ _ _ _ _, ?_, fun e he => by cases he⟩, fun k => Iff.rfl, Nat.le_refl _, by omega, hF⟩
  intro k hk
  simp only [World.size_alloc]
  omega
theorem led_count (g : Nat) (S : Nat → Prop) (E : List Int) (R : List Rec) (e : Int) (w : World) (h : LedRep w S g E R) (he : (Lit.int .i64 e).wf = true) :
    Calls Try.prog 11 #[.pointer (some ⟨g, 0, none⟩), .int .i64 e] w fun r w' => r = .returned (.int .i64 (E.count e : Nat)) ∧ Fr (fun _ => False) w w' := by
  obtain ⟨mc, vr, va, h⟩ := h
  have c0 := h.blk.cell 0
  simp only [List.getElem?_toArray, List.getElem?_cons_zero] at c0
  have hz : (zeroValue 2).run Try.prog w = .ok (.int .i64 0) w := by kernel_rfl
  have hk : (Instr.lookup 45 (.map (some mc)) (.int .i64 e) false).run Try.prog w = .ok (.int .i64 (E.count e : Nat)) w := by
    have := h.map.lookup Try.underlying45 hz (a := e) he
    rw [fE_val] at this
    exact this
  clear h hz
  obtain ⟨n, hn⟩ : ∃ n, n = E.count e := ⟨_, rfl⟩
  rw [← hn] at hk ⊢
  clear hn
  go_enter Try.func11, Try.ntmps11
  go_wp2_with fail
  go_ret
  exact ⟨rfl, Fr.refl _ _⟩
theorem led_count_nil (e : Int) (w : World) : Calls Try.prog 11 #[.pointer none, .int .i64 e] w fun r w' => r = .returned (.int .i64 0) ∧ Fr (fun _ => False) w w' := by
  go_enter Try.func11, Try.ntmps11
  go_wp2_with fail
  go_ret
  exact ⟨rfl, Fr.refl _ _⟩
theorem led_twin_nil (w : World) : Calls Try.prog 6 #[.pointer none] w fun r w' => r = .returned (.pointer none) ∧ Fr (fun _ => False) w w' := by
  go_enter Try.func6, Try.ntmps6
  go_wp2_with fail
  go_ret
  exact ⟨rfl, Fr.refl _ _⟩
theorem led_answers_nil (w : World) : Calls Try.prog 8 #[.pointer none] w fun r w' => r = .returned (.slice none 0 0) ∧ Fr (fun _ => False) w w' := by
  go_enter Try.func8, Try.ntmps8
  go_wp2_with fail
  go_ret
  exact ⟨rfl, Fr.refl _ _⟩
theorem led_records_nil (w : World) : Calls Try.prog 9 #[.pointer none] w fun r w' => r = .returned (.slice none 0 0) ∧ Fr (fun _ => False) w w' := by
  go_enter Try.func9, Try.ntmps9
  go_wp2_with fail
  go_ret
  exact ⟨rfl, Fr.refl _ _⟩
theorem led_worst_nil (w : World) : Calls Try.prog 10 #[.pointer none] w fun r w' => r = .returned (.tuple #[.int .i64 0, .int .i64 0]) ∧ Fr (fun _ => False) w w' := by
  go_enter Try.func10, Try.ntmps10
  go_wp2_with fail
  go_ret2
  exact ⟨rfl, Fr.refl _ _⟩
end Go.Proofs.Ytmfbcebbklimoaa
