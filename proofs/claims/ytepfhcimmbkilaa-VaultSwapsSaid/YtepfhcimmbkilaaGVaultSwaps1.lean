/- Texts of VaultSwaps, merged (1 of 8): Base, RealP, Flt, Open, IdD, Reg2, Reg3, CmdD, Key, FltR, FltK. -/
import Derived.Test.YtepfhcimmbkilaaRows
import Derived.WalkKit
import Derived.WalkSpells
import Derived.WalkLawsBesides
import Derived.Deep.Draws
import Derived.Lib.Hide
import Ieee.Arith
import Derived.Laws.Externs
import Derived.Laws.FloatArith
import Derived.Test.YtepfhcimmbkilaaWWords
import Derived.ProofKit
import Derived.OpenShut
import Derived.Deep.QuietTactic
import Derived.BigQuiet
import Derived.Deep.RegionHeld
import Derived.Laws.Strings
set_option linter.unusedVariables false
set_option linter.unusedSimpArgs false
/- Words and lemmas about memory that the walks use: which old blocks a call may have changed, and what a block holds. No program in sight. -/
namespace Go.Proofs.Ytepfhcimmbkilaa
open Go.RowKit

theorem ret_bool {a b : Bool} (h : a = b) : Ending.returned (.bool a) = .returned (.bool b) := by rw [h]
theorem ret_int {k : IntKind} {a b : Int} (h : a = b) : Ending.returned (.int k a) = .returned (.int k b) := by rw [h]

/-- Of the blocks that were there only those of S may have changed. -/
structure Fr (S : Nat → Prop) (w w' : World) : Prop where
  os : w'.os = w.os
  tape : w'.tape = w.tape
  output : w'.output = w.output
  size : w.heap.size ≤ w'.heap.size
  block : ∀ k, k < w.heap.size → ¬ S k → w'.heap[k]? = w.heap[k]?

namespace Fr
variable {S S' : Nat → Prop} {a b c w w' : World}
theorem refl (S : Nat → Prop) (w : World) : Fr S w w := ⟨rfl, rfl, rfl, Nat.le_refl _, fun _ _ _ => rfl⟩
theorem trans' (h : Fr S a b) (k : Fr S' b c) (hs : ∀ i, i < a.heap.size → S' i → S i) : Fr S a c :=
  ⟨k.os.trans h.os, k.tape.trans h.tape, k.output.trans h.output, Nat.le_trans h.size k.size,
    fun i hi hn => (k.block i (Nat.lt_of_lt_of_le hi h.size) (fun hk => hn (hs i hi hk))).trans (h.block i hi hn)⟩
theorem trans (h : Fr S a b) (k : Fr S b c) : Fr S a c := h.trans' k (fun _ _ h => h)
theorem mono (h : Fr S a b) (hs : ∀ i, i < a.heap.size → S i → S' i) : Fr S' a b :=
  ⟨h.os, h.tape, h.output, h.size, fun i hi hn => h.block i hi (fun hk => hn (hs i hi hk))⟩
theorem drew (h : Fr S a b) : Fr S a b.drew := ⟨h.os, h.tape, h.output, h.size, h.block⟩
theorem drewN (h : Fr S a b) (n : Nat) : Fr S a (b.drewN n) := ⟨h.os, h.tape, h.output, h.size, h.block⟩
theorem alloc (h : Fr S a b) (o : Obj) : Fr S a (b.alloc o) :=
  h.trans' (S' := fun _ => False) ⟨rfl, rfl, rfl, by simp, fun k hk _ => Below.heap_alloc _ _ _ hk⟩ (fun _ _ h => h.elim)
theorem setCell (h : Fr S a b) {p : Addr} (hp : S p.block ∨ a.heap.size ≤ p.block) (u : Value) : Fr S a (b.setCell p u) :=
  h.trans' (S' := fun k => k = p.block) ⟨rfl, rfl, rfl, by simp [World.setCell], fun k _ hn => Below.heap_setCell _ _ _ _ hn⟩
    (fun i hi he => by subst he; rcases hp with hp | hp; exact hp; omega)
theorem of_below (h : Below w.heap.size w w') : Fr S w w' := ⟨h.os, h.tape, h.output, h.size, fun k hk _ => h.block k hk⟩
theorem of_grown {row : Option Nat} (h : w.grownBy w' row) : Fr (fun k => some k = row) w w' := ⟨h.os, h.tape, h.output, h.size, fun k hk hn => h.block k hk hn⟩
theorem below (h : Fr S w w') (hs : ∀ i, i < w.heap.size → ¬ S i) : Below w.heap.size w w' := ⟨h.os, h.tape, h.output, h.size, fun k hk => h.block k hk (hs k hk)⟩
theorem grown {g : Nat} (h : Fr (fun k => k = g) w w') : w.grownBy w' (some g) := ⟨h.os, h.tape, h.output, h.size, fun k hk hn => h.block k hk (fun e => hn (by rw [e]))⟩
theorem get (h : Fr S w w') {g : Nat} {o : Obj} (hg : w.heap[g]? = some o) (hn : ¬ S g) : w'.heap[g]? = some o :=
  (h.block g (Array.getElem?_eq_some_iff.1 hg).1 hn).trans hg
theorem cell (h : Fr S w w') {p : Addr} {v : Value} (hc : w.cell? p = some v) (hn : ¬ S p.block) : w'.cell? p = some v :=
  (World.cell?_of_block (h.block p.block (World.block_lt_of_cell? w p hc) hn)).trans hc
theorem set1 {g : Nat} (h : Fr (· = g) a b) (i : Nat) (u : Value) : Fr (· = g) a (b.setCell ⟨g, i, none⟩ u) := h.setCell (p := ⟨g, i, none⟩) (.inl rfl) u
end Fr

/-- Block g is just the cells cs of type t, none frozen. -/
def Blk (w : World) (g : Nat) (t : TypeId) (cs : Array Value) : Prop := w.heap[g]? = some (.cells cs t (0, 0))
namespace Blk
variable {w w' : World} {g : Nat} {t : TypeId} {cs : Array Value} {S : Nat → Prop}
theorem lt (h : Blk w g t cs) : g < w.heap.size := (Array.getElem?_eq_some_iff.1 h).1
theorem cell (h : Blk w g t cs) (i : Nat) : w.cell? ⟨g, i, none⟩ = cs[i]? := cell_of_row w g i cs t (0, 0) h
theorem frozen (h : Blk w g t cs) (i : Nat) : w.frozen? ⟨g, i, none⟩ = false := by
  unfold Blk at h
  simp [World.frozen?, h]
theorem new (w : World) (t : TypeId) (cs : Array Value) : Blk (w.alloc (.cells cs t)) w.heap.size t cs := heap_alloc_new w _
theorem drew (h : Blk w g t cs) : Blk w.drew g t cs := h
theorem drewN (h : Blk w g t cs) (n : Nat) : Blk (w.drewN n) g t cs := h
theorem alloc (h : Blk w g t cs) (o : Obj) : Blk (w.alloc o) g t cs := (Below.heap_alloc w o g h.lt).trans h
theorem set_ (h : Blk w g t cs) (i : Nat) (u : Value) : Blk (w.setCell ⟨g, i, none⟩ u) g t (cs.setIfInBounds i u) := by
  unfold Blk at h ⊢
  simp [World.setCell, Array.getElem?_modify, h]
theorem far (h : Blk w g t cs) {p : Addr} (hp : g ≠ p.block) (u : Value) : Blk (w.setCell p u) g t cs := (Below.heap_setCell w p u g hp).trans h
theorem fr (h : Blk w g t cs) (hb : Fr S w w') (hn : ¬ S g) : Blk w' g t cs := hb.get h hn
theorem ne_ {g' : Nat} {t' : TypeId} {cs' : Array Value} (h : Blk w g t cs) (h' : Blk w g' t' cs') (hne : t ≠ t') : g ≠ g' := by
  rintro rfl
  unfold Blk at h h'
  rw [h] at h'
  injection h' with h'
  injection h' with _ ht
  exact hne ht
end Blk

end Go.Proofs.Ytepfhcimmbkilaa
/- Doubles, plain: how two words stand is how their ranks stand. No program in sight. -/
namespace Go.Proofs.Ytepfhcimmbkilaa
open Ieee

def rung (x : Nat) : Nat := x % 9223372036854775808
def negW (x : Nat) : Bool := x / 9223372036854775808 % 2 == 1
def nanW (x : Nat) : Prop := 9218868437227405312 < rung x
instance (x : Nat) : Decidable (nanW x) := inferInstanceAs (Decidable (_ < _))
def rank (x : Nat) : Int := if negW x then -(rung x : Int) else rung x

/-- The magnitude of a finite rung, in units of the least one. -/
def scale (r : Nat) : Nat := if r < 4503599627370496 then r else (4503599627370496 + r % 4503599627370496) * 2 ^ (r / 4503599627370496 - 1)

theorem scale_step (r : Nat) : scale r < scale (r + 1) := by
  unfold scale
  rcases Nat.lt_or_ge (r + 1) 4503599627370496 with h | h
  · rw [if_pos (by omega), if_pos h]; omega
  · rcases Nat.lt_or_ge r 4503599627370496 with h1 | h1
    · have : r = 4503599627370495 := by omega
      subst this
      decide
    · rw [if_neg (by omega), if_neg (by omega)]
      rcases Nat.lt_or_ge (r % 4503599627370496 + 1) 4503599627370496 with h2 | h2
      · have e1 : (r + 1) / 4503599627370496 = r / 4503599627370496 := by omega
        have e2 : (r + 1) % 4503599627370496 = r % 4503599627370496 + 1 := by omega
        rw [e1, e2]
        exact Nat.mul_lt_mul_of_pos_right (by omega) (Nat.two_pow_pos _)
      · have e1 : (r + 1) / 4503599627370496 = r / 4503599627370496 + 1 := by omega
        have e2 : (r + 1) % 4503599627370496 = 0 := by omega
        have e3 : r / 4503599627370496 + 1 - 1 = (r / 4503599627370496 - 1) + 1 := by omega
        rw [e1, e2, e3, Nat.pow_succ, Nat.add_zero, Nat.mul_comm (2 ^ _) 2, ← Nat.mul_assoc]
        exact Nat.mul_lt_mul_of_pos_right (by omega) (Nat.two_pow_pos _)
theorem scale_mono {a b : Nat} (h : a < b) : scale a < scale b := by
  induction b with
  | zero => omega
  | succ b ih =>
    rcases Nat.lt_or_ge a b with h1 | h1
    · exact Nat.lt_trans (ih h1) (scale_step b)
    · have : a = b := by omega
      subst this; exact scale_step a
theorem scale_zero : scale 0 = 0 := rfl

def sval (n : Bool) (r : Nat) : Int := if n then -(scale r : Int) else scale r
theorem sval_cmp (x y : Nat) : compare (sval (negW x) (rung x)) (sval (negW y) (rung y)) = compare (rank x) (rank y) := by
  have key : ∀ a b : Nat, (scale a < scale b ↔ a < b) := fun a b => ⟨fun h => by
    rcases Nat.lt_or_ge a b with h1 | h1
    · exact h1
    · rcases Nat.eq_or_lt_of_le h1 with h2 | h2
      · subst h2; omega
      · have := scale_mono h2; omega, scale_mono⟩
  have k1 := key (rung x) (rung y)
  have k2 := key (rung y) (rung x)
  have k3 := key 0 (rung x)
  have k4 := key 0 (rung y)
  rw [scale_zero] at k3 k4
  have hlt : sval (negW x) (rung x) < sval (negW y) (rung y) ↔ rank x < rank y := by
    unfold sval rank
    cases negW x <;> cases negW y <;> simp only [if_true, if_false, Bool.false_eq_true] <;> omega
  have heq : sval (negW x) (rung x) = sval (negW y) (rung y) ↔ rank x = rank y := by
    unfold sval rank
    cases negW x <;> cases negW y <;> simp only [if_true, if_false, Bool.false_eq_true] <;> omega
  show compareOfLessAndEq _ _ = compareOfLessAndEq _ _
  unfold compareOfLessAndEq
  by_cases h1 : rank x < rank y
  · rw [if_pos h1, if_pos (hlt.2 h1)]
  · rw [if_neg h1, if_neg (fun h => h1 (hlt.1 h))]
    by_cases h2 : rank x = rank y
    · rw [if_pos h2, if_pos (heq.2 h2)]
    · rw [if_neg h2, if_neg (fun h => h2 (heq.1 h))]

theorem cmp_scale (a b : Int) (p : Nat) (hp : 0 < p) : compare (a * p) (b * p) = compare a b := by
  have hlt : a * p < b * p ↔ a < b := Int.mul_lt_mul_right (by omega)
  have heq : a * p = b * p ↔ a = b := Int.mul_eq_mul_right_iff (by omega)
  show compareOfLessAndEq _ _ = compareOfLessAndEq _ _
  unfold compareOfLessAndEq
  by_cases h1 : a < b
  · rw [if_pos h1, if_pos (hlt.2 h1)]
  · rw [if_neg h1, if_neg (fun h => h1 (hlt.1 h))]
    by_cases h2 : a = b
    · rw [if_pos h2, if_pos (heq.2 h2)]
    · rw [if_neg h2, if_neg (fun h => h2 (heq.1 h))]

theorem signed_mul (s : Bool) (m u p : Nat) : signed s m u * (2 ^ p : Nat) = signed s m (u + p) := by
  unfold signed
  rw [Nat.shiftLeft_eq, Nat.shiftLeft_eq, Nat.pow_add]
  cases s
  · simp only [if_false, Bool.false_eq_true]; push_cast; rw [Int.mul_assoc]
  · simp only [if_true]; push_cast; rw [Int.neg_mul, Int.mul_assoc]

/-- What a finite word reads as: its sign, and a magnitude at a place such that in units of the least one it is its scale. -/
theorem read_num (x : Nat) (h : rung x < 9218868437227405312) : ∃ m a : Nat, double.read x = .number (negW x) m (-1074 + (a : Int)) ∧ m * 2 ^ a = scale (rung x) := by
  unfold scale
  have e1 : double.signWeight = 9223372036854775808 := by decide +kernel
  have e2 : double.binade = 4503599627370496 := by decide +kernel
  have e3 : double.infRung = 9218868437227405312 := by decide +kernel
  have e4 : double.leastPlace = -1074 := by decide +kernel
  unfold Format.read
  rw [e1, e2, e3, e4]
  simp only
  change x % 9223372036854775808 < _ at h
  rcases Nat.lt_or_ge (x % 9223372036854775808) 4503599627370496 with h1 | h1
  · refine ⟨x % 9223372036854775808, 0, ?_, ?_⟩
    · rw [if_pos h1]; rfl
    · unfold rung; rw [if_pos h1]; omega
  · refine ⟨4503599627370496 + x % 9223372036854775808 % 4503599627370496, x % 9223372036854775808 / 4503599627370496 - 1, ?_, ?_⟩
    · rw [if_neg (by omega), if_pos h]; rfl
    · unfold rung; rw [if_neg (by omega)]
theorem read_inf (x : Nat) (h : rung x = 9218868437227405312) : double.read x = .infinity (negW x) := by
  have e1 : double.signWeight = 9223372036854775808 := by decide +kernel
  have e2 : double.binade = 4503599627370496 := by decide +kernel
  have e3 : double.infRung = 9218868437227405312 := by decide +kernel
  unfold Format.read
  rw [e1, e2, e3]
  simp only
  change x % 9223372036854775808 = _ at h
  rw [if_neg (by omega), if_neg (by omega), if_pos h]; rfl
theorem read_nan (x : Nat) (h : nanW x) : ∃ t, double.read x = .nan (negW x) t := by
  have e1 : double.signWeight = 9223372036854775808 := by decide +kernel
  have e2 : double.binade = 4503599627370496 := by decide +kernel
  have e3 : double.infRung = 9218868437227405312 := by decide +kernel
  unfold Format.read
  rw [e1, e2, e3]
  simp only
  change _ < x % 9223372036854775808 at h
  refine ⟨x % 9223372036854775808 - 9218868437227405312, ?_⟩
  rw [if_neg (by omega), if_neg (by omega), if_neg (by omega)]; rfl

theorem order_nan (x y : Nat) (h : nanW x ∨ nanW y) : double.order x y = none := by
  unfold Format.order
  rcases h with h | h
  · obtain ⟨t, e⟩ := read_nan x h
    rw [e]; rfl
  · obtain ⟨t, e⟩ := read_nan y h
    rw [e]
    cases double.read x <;> rfl
theorem order_rank (x y : Nat) (hx : ¬ nanW x) (hy : ¬ nanW y) : double.order x y = some (compare (rank x) (rank y)) := by
  unfold Format.order
  unfold nanW at hx hy
  have cmp : ∀ a b : Int, (a < b → compare a b = .lt) ∧ (b < a → compare a b = .gt) ∧ (a = b → compare a b = .eq) := fun a b => by
    refine ⟨fun h => ?_, fun h => ?_, fun h => ?_⟩ <;> show compareOfLessAndEq a b = _ <;> unfold compareOfLessAndEq
    · rw [if_pos h]
    · rw [if_neg (by omega), if_neg (by omega)]
    · rw [if_neg (by omega), if_pos h]
  rcases Nat.lt_or_ge (rung x) 9218868437227405312 with h1 | h1
  · obtain ⟨m, a, e, hm⟩ := read_num x h1
    rw [e]
    rcases Nat.lt_or_ge (rung y) 9218868437227405312 with h2 | h2
    · obtain ⟨n, b, f, hn⟩ := read_num y h2
      rw [f]
      unfold Datum.order
      simp only
      congr 1
      rw [← sval_cmp]
      have hb : ∀ a b : Nat, ((-1074 + (a : Int)) - min (-1074 + (a : Int)) (-1074 + (b : Int))).toNat + min a b = a := fun a b => by omega
      have hb2 : ∀ a b : Nat, ((-1074 + (b : Int)) - min (-1074 + (a : Int)) (-1074 + (b : Int))).toNat + min a b = b := fun a b => by omega
      rw [← cmp_scale _ _ (2 ^ min a b) (Nat.two_pow_pos _), signed_mul, signed_mul, hb, hb2]
      have hs : ∀ (s : Bool) (m a r : Nat), m * 2 ^ a = scale r → signed s m a = sval s r := fun s m a r h => by
        unfold signed sval
        rw [Nat.shiftLeft_eq, h]
      rw [hs _ _ _ _ hm, hs _ _ _ _ hn]
    · rw [read_inf y (by omega)]
      have hy2 : rung y = 9218868437227405312 := by omega
      unfold Datum.order
      simp only
      congr 1
      have hr : rank y = if negW y then -9218868437227405312 else 9218868437227405312 := by unfold rank; rw [hy2]; rfl
      have hq : -9218868437227405312 < rank x ∧ rank x < 9218868437227405312 := by unfold rank; cases negW x <;> simp only [if_true, if_false, Bool.false_eq_true] <;> omega
      rw [hr]
      cases negW y
      · exact ((cmp _ _).1 hq.2).symm
      · exact ((cmp _ _).2.1 hq.1).symm
  · have hx2 : rung x = 9218868437227405312 := by omega
    rw [read_inf x hx2]
    have hr : rank x = if negW x then -9218868437227405312 else 9218868437227405312 := by unfold rank; rw [hx2]; rfl
    rcases Nat.lt_or_ge (rung y) 9218868437227405312 with h2 | h2
    · obtain ⟨n, b, f, hn⟩ := read_num y h2
      rw [f]
      unfold Datum.order
      simp only
      congr 1
      have hq : -9218868437227405312 < rank y ∧ rank y < 9218868437227405312 := by unfold rank; cases negW y <;> simp only [if_true, if_false, Bool.false_eq_true] <;> omega
      rw [hr]
      cases negW x
      · exact ((cmp _ _).2.1 hq.2).symm
      · exact ((cmp _ _).1 hq.1).symm
    · have hy2 : rung y = 9218868437227405312 := by omega
      have hr2 : rank y = if negW y then -9218868437227405312 else 9218868437227405312 := by unfold rank; rw [hy2]; rfl
      rw [read_inf y hy2, hr, hr2]
      cases negW x <;> cases negW y <;> rfl
end Go.Proofs.Ytepfhcimmbkilaa
/- Floats told by the reference: which two are the same (one NaN, two zeros). -/
namespace Go.Proofs.Ytepfhcimmbkilaa
open Go.RowKit

abbrev ford (x y : Nat) : Option Ordering := FloatKind.f64.format.order x y
theorem ref_nan (x : Nat) (w : World) : Calls Try.prog 64 #[.float .f64 x] w fun r w' => r = .returned (.bool (ford x x != some .eq)) ∧ w = w' := by
  go_enter Try.func64, Try.ntmps64
  go_wp2_with fail
  go_ret
  exact ⟨rfl, rfl⟩
theorem cmp_lt {a b : Int} (h : a < b) : compare a b = .lt := by show compareOfLessAndEq a b = _; unfold compareOfLessAndEq; rw [if_pos h]
theorem cmp_gt {a b : Int} (h : b < a) : compare a b = .gt := by show compareOfLessAndEq a b = _; unfold compareOfLessAndEq; rw [if_neg (by omega), if_neg (by omega)]
theorem cmp_eq {a b : Int} (h : a = b) : compare a b = .eq := by show compareOfLessAndEq a b = _; unfold compareOfLessAndEq; rw [if_neg (by omega), if_pos h]
theorem ford_nan {x y : Nat} (h : nanW x ∨ nanW y) : ford x y = none := order_nan x y h
theorem ford_lt {x y : Nat} (hx : ¬ nanW x) (hy : ¬ nanW y) (h : rank x < rank y) : ford x y = some .lt := (order_rank x y hx hy).trans (by rw [cmp_lt h])
theorem ford_gt {x y : Nat} (hx : ¬ nanW x) (hy : ¬ nanW y) (h : rank y < rank x) : ford x y = some .gt := (order_rank x y hx hy).trans (by rw [cmp_gt h])
theorem ford_eq {x y : Nat} (hx : ¬ nanW x) (hy : ¬ nanW y) (h : rank x = rank y) : ford x y = some .eq := (order_rank x y hx hy).trans (by rw [cmp_eq h])
theorem rank_nil : rank 0 = 0 := by decide +kernel
theorem nan_nil : ¬ nanW 0 := by decide +kernel
theorem zero_cases {x : Nat} (hx : x < 18446744073709551616) (h : rank x = 0) : x = 0 ∨ x = 9223372036854775808 := by
  unfold rank rung at h
  cases hn : negW x <;> rw [hn] at h <;> simp only [if_true, if_false, Bool.false_eq_true] at h <;> omega
theorem ford_self {x : Nat} (h : ¬ nanW x) : ford x x = some .eq := ford_eq h h rfl
/-- How a number stands: the NaNs first, then the rest, -0 ahead of +0. -/
def key (x : Nat) : Int := if nanW x then -18446744073709551616 else if negW x then -(rung x : Int) - 1 else rung x
theorem quoF {a b r : Nat} (h : Ieee.double.div a b = some r) (w : World) : (binOp .quo 35 (.float .f64 a) (.float .f64 b)).run Try.prog w = .ok (.float .f64 r) w :=
  run_float_arith w .quo 35 .f64 a b r h
theorem key_rank {x y : Nat} (n1 : ¬ nanW x) (n2 : ¬ nanW y) (h : rank x ≠ 0 ∨ rank y ≠ 0) : key x = key y ↔ rank x = rank y := by
  unfold key
  rw [if_neg n1, if_neg n2]
  unfold rank at h ⊢
  cases hA : negW x <;> cases hB : negW y <;> rw [hA, hB] at h <;> simp only [if_true, if_false, Bool.false_eq_true] at h ⊢ <;> omega
theorem key_nan {x y : Nat} (n1 : nanW x) (n2 : ¬ nanW y) : key x ≠ key y := by
  have : rung y < 9223372036854775808 := Nat.mod_lt _ (by omega)
  unfold key
  rw [if_pos n1, if_neg n2]
  split <;> omega
theorem ford_ne0 {x : Nat} (n : ¬ nanW x) (h : rank x ≠ 0) : (ford x 0 == some .eq) = false := by
  rcases Int.lt_trichotomy (rank x) 0 with a | a | a
  · rw [ford_lt n nan_nil (by rw [rank_nil]; exact a)]; rfl
  · exact absurd a h
  · rw [ford_gt n nan_nil (by rw [rank_nil]; exact a)]; rfl
theorem ford_same {x y : Nat} (n1 : ¬ nanW x) (n2 : ¬ nanW y) : (ford x y == some .eq) = decide (rank x = rank y) := by
  rcases Int.lt_trichotomy (rank x) (rank y) with a | a | a
  · rw [ford_lt n1 n2 a, decide_eq_false (by omega)]; rfl
  · rw [ford_eq n1 n2 a, decide_eq_true a]; rfl
  · rw [ford_gt n1 n2 a, decide_eq_false (by omega)]; rfl
set_option maxRecDepth 100000 in
theorem ref_same (x y : Nat) (w : World) (hx : x < 18446744073709551616) (hy : y < 18446744073709551616) : Calls Try.prog 50 #[.float .f64 x, .float .f64 y] w fun r w' => r = .returned (.bool (decide (key x = key y))) ∧ w = w' := by
  by_cases n1 : nanW x
  · have h1 : (ford x x != some .eq) = true := by rw [ford_nan (x := x) (y := x) (.inl n1)]; rfl
    by_cases n2 : nanW y
    · have h2 : (ford y y != some .eq) = true := by rw [ford_nan (x := y) (y := y) (.inl n2)]; rfl
      have hk : decide (key x = key y) = true := by rw [decide_eq_true_iff]; unfold key; rw [if_pos n1, if_pos n2]
      rw [hk]
      clear n1 n2 hk
      go_enter Try.func50, Try.ntmps50
      go_wp2_with fail
      refine (ref_nan _ w).mono ?_
      rintro r w1 ⟨rfl, rfl⟩
      rw [h1]
      go_wp2_with fail
      refine (ref_nan _ w).mono ?_
      rintro r w1 ⟨rfl, rfl⟩
      rw [h1]
      go_wp2_with fail
      refine (ref_nan _ w).mono ?_
      rintro r w1 ⟨rfl, rfl⟩
      rw [h2]
      go_wp2_with fail
      go_ret
      exact ⟨rfl, rfl⟩
    · have h2 : (ford y y != some .eq) = false := by rw [ford_self n2]; rfl
      have hk : decide (key x = key y) = false := by rw [decide_eq_false_iff_not]; exact key_nan n1 n2
      rw [hk]
      clear n1 n2 hk
      go_enter Try.func50, Try.ntmps50
      go_wp2_with fail
      refine (ref_nan _ w).mono ?_
      rintro r w1 ⟨rfl, rfl⟩
      rw [h1]
      go_wp2_with fail
      refine (ref_nan _ w).mono ?_
      rintro r w1 ⟨rfl, rfl⟩
      rw [h1]
      go_wp2_with fail
      refine (ref_nan _ w).mono ?_
      rintro r w1 ⟨rfl, rfl⟩
      rw [h2]
      go_wp2_with fail
      go_ret
      exact ⟨rfl, rfl⟩
  · have h1 : (ford x x != some .eq) = false := by rw [ford_self n1]; rfl
    by_cases n2 : nanW y
    · have h2 : (ford y y != some .eq) = true := by rw [ford_nan (x := y) (y := y) (.inl n2)]; rfl
      have hk : decide (key x = key y) = false := by rw [decide_eq_false_iff_not]; exact fun h => key_nan n2 n1 h.symm
      rw [hk]
      clear n1 n2 hk
      go_enter Try.func50, Try.ntmps50
      go_wp2_with fail
      refine (ref_nan _ w).mono ?_
      rintro r w1 ⟨rfl, rfl⟩
      rw [h1]
      go_wp2_with fail
      refine (ref_nan _ w).mono ?_
      rintro r w1 ⟨rfl, rfl⟩
      rw [h2]
      go_wp2_with fail
      refine (ref_nan _ w).mono ?_
      rintro r w1 ⟨rfl, rfl⟩
      rw [h1]
      go_wp2_with fail
      go_ret
      exact ⟨rfl, rfl⟩
    · have h2 : (ford y y != some .eq) = false := by rw [ford_self n2]; rfl
      by_cases a : rank x = 0
      · have h3 : (ford x 0 == some .eq) = true := by rw [ford_eq n1 nan_nil (by rw [rank_nil]; exact a)]; rfl
        by_cases b : rank y = 0
        · have h4 : (ford y 0 == some .eq) = true := by rw [ford_eq n2 nan_nil (by rw [rank_nil]; exact b)]; rfl
          have q0 := quoF (a := 4607182418800017408) (b := 0) (r := 9218868437227405312) (by decide +kernel)
          have q1 := quoF (a := 4607182418800017408) (b := 9223372036854775808) (r := 18442240474082181120) (by decide +kernel)
          rcases zero_cases hx a with rfl | rfl <;> rcases zero_cases hy b with rfl | rfl
          · have hk : decide (key 0 = key 0) = true := by decide +kernel
            have h5 : (ford 9218868437227405312 9218868437227405312 == some .eq) = true := by decide +kernel
            rw [hk]
            clear n1 n2 hk a b
            go_enter Try.func50, Try.ntmps50
            go_wp2_with fail
            refine (ref_nan _ w).mono ?_
            rintro r w1 ⟨rfl, rfl⟩
            rw [h1]
            go_wp2_with fail
            refine (ref_nan _ w).mono ?_
            rintro r w1 ⟨rfl, rfl⟩
            rw [h2]
            go_wp2_with fail
            go_ret
            exact ⟨rfl, rfl⟩
          · have hk : decide (key 0 = key 9223372036854775808) = false := by decide +kernel
            have h5 : (ford 9218868437227405312 18442240474082181120 == some .eq) = false := by decide +kernel
            rw [hk]
            clear n1 n2 hk a b
            go_enter Try.func50, Try.ntmps50
            go_wp2_with fail
            refine (ref_nan _ w).mono ?_
            rintro r w1 ⟨rfl, rfl⟩
            rw [h1]
            go_wp2_with fail
            refine (ref_nan _ w).mono ?_
            rintro r w1 ⟨rfl, rfl⟩
            rw [h2]
            go_wp2_with fail
            go_ret
            exact ⟨rfl, rfl⟩
          · have hk : decide (key 9223372036854775808 = key 0) = false := by decide +kernel
            have h5 : (ford 18442240474082181120 9218868437227405312 == some .eq) = false := by decide +kernel
            rw [hk]
            clear n1 n2 hk a b
            go_enter Try.func50, Try.ntmps50
            go_wp2_with fail
            refine (ref_nan _ w).mono ?_
            rintro r w1 ⟨rfl, rfl⟩
            rw [h1]
            go_wp2_with fail
            refine (ref_nan _ w).mono ?_
            rintro r w1 ⟨rfl, rfl⟩
            rw [h2]
            go_wp2_with fail
            go_ret
            exact ⟨rfl, rfl⟩
          · have hk : decide (key 9223372036854775808 = key 9223372036854775808) = true := by decide +kernel
            have h5 : (ford 18442240474082181120 18442240474082181120 == some .eq) = true := by decide +kernel
            rw [hk]
            clear n1 n2 hk a b
            go_enter Try.func50, Try.ntmps50
            go_wp2_with fail
            refine (ref_nan _ w).mono ?_
            rintro r w1 ⟨rfl, rfl⟩
            rw [h1]
            go_wp2_with fail
            refine (ref_nan _ w).mono ?_
            rintro r w1 ⟨rfl, rfl⟩
            rw [h2]
            go_wp2_with fail
            go_ret
            exact ⟨rfl, rfl⟩
        · have h4 := ford_ne0 n2 b
          have h5 := ford_same n1 n2
          have hk : decide (key x = key y) = decide (rank x = rank y) := by rw [Bool.eq_iff_iff, decide_eq_true_iff, decide_eq_true_iff]; exact key_rank n1 n2 (.inr b)
          rw [hk, ← h5]
          clear n1 n2 hk a b h5
          go_enter Try.func50, Try.ntmps50
          go_wp2_with fail
          refine (ref_nan _ w).mono ?_
          rintro r w1 ⟨rfl, rfl⟩
          rw [h1]
          go_wp2_with fail
          refine (ref_nan _ w).mono ?_
          rintro r w1 ⟨rfl, rfl⟩
          rw [h2]
          go_wp2_with fail
          go_ret
          exact ⟨rfl, rfl⟩
      · have h3 := ford_ne0 n1 a
        have h5 := ford_same n1 n2
        have hk : decide (key x = key y) = decide (rank x = rank y) := by rw [Bool.eq_iff_iff, decide_eq_true_iff, decide_eq_true_iff]; exact key_rank n1 n2 (.inl a)
        rw [hk, ← h5]
        clear n1 n2 hk a h5
        go_enter Try.func50, Try.ntmps50
        go_wp2_with fail
        refine (ref_nan _ w).mono ?_
        rintro r w1 ⟨rfl, rfl⟩
        rw [h1]
        go_wp2_with fail
        refine (ref_nan _ w).mono ?_
        rintro r w1 ⟨rfl, rfl⟩
        rw [h2]
        go_wp2_with fail
        go_ret
        exact ⟨rfl, rfl⟩
end Go.Proofs.Ytepfhcimmbkilaa
/- What came in as an argument reads by its kind (Kd of the printed words): from the row's reading to the kinds. -/
namespace Go.Proofs.Ytepfhcimmbkilaa
open Go.ChangeShapes Go.WideShapes Go.ChangeAt Go.RowKit
open Go.Proofs.YtepfhcimmbkilaaW.PrintWords

/-- Whatever reads at type t as data is of kind d, and fits (W). -/
def Opens (P : Program) (t : TypeId) {α : Type} (d : Kd α) (W : α → Prop) : Prop :=
  ∀ {H : Type} {enc : TypeId × Value → H} {w : World} {fuel : Nat} {cs : List Value} {x : DataW H × List MemPlace},
    DataW.trod enc P w 0 (fun _ => true) true fuel t cs = some x → ∃ y : α, d.K w y cs ∧ W y

theorem spot_none {w : World} {a : Addr} {v : Value} (h : w.cell? a = some v) : a.spot = none := by
  unfold World.cell? at h
  split at h
  · split at h
    · cases h
    · rename_i hs; simpa using hs
  · cases h
theorem cells_at {w : World} {a : Addr} {n : Nat} {cs : List Value} (h : w.cells? 0 a n = some cs) : cs.length = n ∧ ∀ j u, cs[j]? = some u → w.cell? (a.add j) = some u := by
  unfold World.cells? at h
  rw [if_pos (Nat.zero_le _)] at h
  have hl : cs.length = n := by simpa using mapM_some_length h
  refine ⟨hl, fun j u hj => ?_⟩
  have hlt : j < n := by have := (List.getElem?_eq_some_iff.1 hj).1; omega
  have := mapM_some_get h j j (by simp [hlt])
  rw [this, hj]

theorem opens_int {P : Program} {t : TypeId} {k : IntKind} (ht : P.underlying t = some (.int k)) : Opens P t (Kd.int k) (fun n => (Lit.int k n).wf = true) := by
  intro H enc w fuel cs x h
  obtain ⟨n, rfl, _, hw⟩ := DataW.trod_int ht h
  exact ⟨n, rfl, hw⟩
theorem opens_bool {P : Program} {t : TypeId} (ht : P.underlying t = some .bool) : Opens P t Kd.bool (fun _ => True) := by
  intro H enc w fuel cs x h
  obtain ⟨n, rfl, _⟩ := DataW.trod_bool ht h
  exact ⟨n, rfl, trivial⟩
theorem opens_string {P : Program} {t : TypeId} (ht : P.underlying t = some .string) : Opens P t Kd.string (fun s => s.size ≤ maxLen) := by
  intro H enc w fuel cs x h
  obtain ⟨n, rfl, _, hw⟩ := DataW.trod_string ht h
  exact ⟨n, rfl, hw⟩
def kfloat : Kd Nat := Kd.scalar (Value.float .f64) (fun _ => rfl)
theorem opens_float {P : Program} {t : TypeId} (ht : P.underlying t = some (.float .f64)) : Opens P t kfloat (fun b => b < 2 ^ 64) := by
  intro H enc w fuel cs x h
  cases fuel with
  | zero => simp [DataW.trod] at h
  | succ n =>
    unfold DataW.trod at h
    rw [ht] at h
    split at h <;> simp_all
    rename_i k k' b hk
    obtain ⟨⟨_, hw⟩, _⟩ := h
    subst hk
    exact ⟨b, rfl, by simpa [Lit.wf] using hw⟩

theorem opens_iso {P : Program} {t : TypeId} {α β : Type} {d : Kd α} {W : α → Prop} (h : Opens P t d W) (f : β → α) (g : α → β) (hfg : ∀ x, f (g x) = x) : Opens P t (Kd.iso d f) (fun y => W (f y)) := by
  intro H enc w fuel cs x hx
  obtain ⟨y, hk, hw⟩ := h hx
  exact ⟨g y, by show d.K w (f (g y)) cs; rw [hfg]; exact hk, by show W (f (g y)); rw [hfg]; exact hw⟩

theorem opens_struct2 {P : Program} {t : TypeId} {f0 f1 : Field} {α β : Type} {a : Kd α} {b : Kd β} {Wa : α → Prop} {Wb : β → Prop} (ht : P.underlying t = some (.struct #[f0, f1]))
    (h0 : Opens P f0.type a Wa) (h1 : Opens P f1.type b Wb) (c0 : P.cellsOf f0.type = a.sz) (c1 : P.cellsOf f1.type = b.sz) (o0 : f0.offset = 0) (o1 : f1.offset = a.sz) (ct : P.cellsOf t = a.sz + b.sz) :
    Opens P t (Kd.pair a b) (fun x => Wa x.1 ∧ Wb x.2) := by
  intro H enc w fuel cs x hx
  obtain ⟨xs, n, _, _, hl, hlen, hf⟩ := DataW.trod_struct ht hx
  have g0 := hf 0 f0 rfl
  have g1 := hf 1 f1 rfl
  have hlen' : xs.length = 2 := hlen
  rw [List.getElem?_eq_getElem (by omega)] at g0 g1
  obtain ⟨y0, k0, w0⟩ := h0 g0
  obtain ⟨y1, k1, w1⟩ := h1 g1
  rw [o0, c0, List.drop_zero] at k0
  rw [o1, c1] at k1
  refine ⟨(y0, y1), ⟨_, _, ?_, k0, k1⟩, w0, w1⟩
  rw [List.take_of_length_le (l := cs.drop a.sz) (by rw [List.length_drop]; omega), List.take_append_drop]

theorem opens_array2 {P : Program} {t e : TypeId} {α : Type} {a : Kd α} {Wa : α → Prop} (ht : P.underlying t = some (.array 2 e))
    (h0 : Opens P e a Wa) (c0 : P.cellsOf e = a.sz) (ct : P.cellsOf t = a.sz + a.sz) : Opens P t (Kd.pair a a) (fun x => Wa x.1 ∧ Wa x.2) := by
  intro H enc w fuel cs x hx
  obtain ⟨xs, n, _, _, hl, hlen, hf⟩ := DataW.trod_array ht hx
  have g0 := hf 0 (by omega)
  have g1 := hf 1 (by omega)
  rw [List.getElem?_eq_getElem (by omega)] at g0 g1
  obtain ⟨y0, k0, w0⟩ := h0 g0
  obtain ⟨y1, k1, w1⟩ := h0 g1
  rw [c0, Nat.zero_mul, List.drop_zero] at k0
  rw [c0, Nat.one_mul] at k1
  refine ⟨(y0, y1), ⟨_, _, ?_, k0, k1⟩, w0, w1⟩
  rw [List.take_of_length_le (l := cs.drop a.sz) (by rw [List.length_drop]; omega), List.take_append_drop]

/-- The nested tail of a struct: fields from the i-th on, their cells from offset o on. -/
theorem opens_slice {P : Program} {t e : TypeId} {α : Type} {d : Kd α} {W : α → Prop} (ht : P.underlying t = some (.slice e)) (h : Opens P e d W) (hc : P.cellsOf e = d.sz) :
    Opens P t (Kd.slice e d) (fun l => ∀ y ∈ l, W y) := by
  intro H enc w fuel cs x hx
  rcases DataW.trod_slice ht hx with ⟨rfl, _⟩ | ⟨a, len, cap, elems, rest, n, _, rfl, _, _, hlc, hcm, hel, hall, hrest⟩
  · exact ⟨[], ⟨none, 0, rfl, Nat.le_refl _, Kd.C_nil d w⟩, fun y hy => by cases hy⟩
  · have key : ∀ i, i < len → ∃ y c, c.length = d.sz ∧ d.K w y c ∧ W y ∧ ∀ j u, c[j]? = some u → w.cell? (a.add (i * d.sz + j)) = some u := by
      intro i hi
      have h1 := hall i hi
      rw [List.getElem?_eq_getElem (by omega), Option.bind_eq_some_iff] at h1
      obtain ⟨c, hc1, hc2⟩ := h1
      rw [hc] at hc1
      obtain ⟨y, hk, hw⟩ := h hc2
      obtain ⟨hl, hcell⟩ := cells_at hc1
      exact ⟨y, c, hl, hk, hw, fun j u hj => by have := hcell j u hj; rwa [add_add] at this⟩
    have : ∃ l : List α, l.length = len ∧ ∀ (i : Nat) (y : α), l[i]? = some y → W y ∧ ∃ c, c.length = d.sz ∧ d.K w y c ∧ ∀ j u, c[j]? = some u → w.cell? (a.add (i * d.sz + j)) = some u := by
      clear hall hel hlc hcm hx hrest
      induction len with
      | zero => exact ⟨[], rfl, fun i y hy => by simp at hy⟩
      | succ m ih =>
        obtain ⟨l, hl, hp⟩ := ih (fun i hi => key i (by omega))
        obtain ⟨y, c, h1, h2, h3, h4⟩ := key m (by omega)
        refine ⟨l ++ [y], by simp [hl], fun i z hz => ?_⟩
        rcases Nat.lt_or_ge i l.length with hi | hi
        · rw [List.getElem?_append_left hi] at hz
          exact hp i z hz
        · rw [List.getElem?_append_right hi] at hz
          have hi2 : i = m := by
            have := (List.getElem?_eq_some_iff.1 hz).1
            simp at this
            omega
          subst hi2
          rw [hl, Nat.sub_self] at hz
          have : y = z := by simpa using hz
          subst this
          exact ⟨h3, c, h1, h2, h4⟩
    obtain ⟨l, hl, hp⟩ := this
    refine ⟨l, ⟨some a, cap, by rw [hl], by omega, rfl, ?_, fun _ => ⟨a, rfl, fun j p hj => (hp j p hj).2⟩⟩, fun y hy => ?_⟩
    · simp only [maxLen] at hcm; omega
    · obtain ⟨i, hi, rfl⟩ := List.getElem_of_mem hy
      exact (hp i _ (List.getElem?_eq_getElem hi)).1

/-- An element of a slice that reads: its cells at plain addresses. -/
theorem C_at {α : Type} {d : Kd α} {w : World} {A : Option Addr} {n : Nat} {xs : List α} (h : d.C w A n xs) (hs : 0 < d.sz) {i : Nat} (hi : i < n) :
    ∃ b off c, ∃ hi' : i < xs.length, A = some ⟨b, off, none⟩ ∧ c.length = d.sz ∧ d.K w xs[i] c ∧ ∀ j u, c[j]? = some u → w.cell? ⟨b, off + i * d.sz + j, none⟩ = some u := by
  obtain ⟨ad, rfl, hc⟩ := h.2.2 (by omega)
  have hl : i < xs.length := by have := h.1; omega
  obtain ⟨c, h1, h2, h3⟩ := hc i _ (List.getElem?_eq_getElem hl)
  have hsp : ad.spot = none := by
    obtain ⟨c0, q1, q2, q3⟩ := hc 0 _ (List.getElem?_eq_getElem (by omega))
    have := spot_none (q3 0 c0[0] (List.getElem?_eq_getElem (by omega)))
    simpa [Addr.add] using this
  obtain ⟨b, off, sp⟩ := ad
  simp only at hsp
  subst hsp
  refine ⟨b, off, c, hl, rfl, h1, h2, fun j u hj => ?_⟩
  have := h3 j u hj
  rw [add_at] at this
  rw [Nat.add_assoc]
  exact this
/-- An argument that is a slice. -/
theorem open_arg_slice {P : Program} {t e : TypeId} {α : Type} {d : Kd α} {W : α → Prop} (ht : P.underlying t = some (.slice e)) (h : Opens P e d W) (hc : P.cellsOf e = d.sz)
    {H : Type} {enc : TypeId × Value → H} {w : World} {r : Reach} {b0 : Nat} {v : Value} {x : DataW H} {ps : List MemPlace}
    (hv : Value.okWide P w r b0 t v) (hx : DataW.Trod enc P w 0 (fun _ => true) true t v x ps) :
    ∃ A c l, v = .slice A (List.length l) c ∧ l.length ≤ c ∧ d.C w A l.length l ∧ ∀ y ∈ l, W y := by
  obtain ⟨a0, len, cap, rfl⟩ := okWide_slice ht hv
  obtain ⟨fuel, hf⟩ := hx
  obtain ⟨l, ⟨A, c, he, hl, hC⟩, hW⟩ := opens_slice ht h hc hf
  have he' : Value.slice a0 len cap = .slice A l.length c := by simpa [Value.cells] using he
  exact ⟨A, c, l, he', hl, hC, hW⟩
end Go.Proofs.Ytepfhcimmbkilaa
/- Lists of ids: what an element's cells are, equality. -/
namespace Go.Proofs.Ytepfhcimmbkilaa
open Go.RowKit
open Go.Proofs.YtepfhcimmbkilaaW.PrintWords

abbrev idV (a : Int × Int) : Value := .agg #[.int .i64 a.1, .int .i64 a.2]
def IdOk (a : Int × Int) : Prop := (Lit.int .i64 a.1).wf = true ∧ (Lit.int .i64 a.2).wf = true
def idK : Kd (Int × Int) := Kd.pair (Kd.int .i64) (Kd.int .i64)
theorem info_id : (Try.prog.info? 27).map (fun i => (i.zero, i.size, i.bytes)) = some (some (.agg #[.int .i64 0, .int .i64 0]), idK.sz, 16) := by kernel_rfl
theorem idK_M (w : World) (base : Nat) (ok : Nat → Prop) (a : Int × Int) : idK.M w base ok a [.int .i64 a.1, .int .i64 a.2] := ⟨[.int .i64 a.1], [.int .i64 a.2], rfl, rfl, rfl⟩
theorem idK_K {w : World} {a : Int × Int} {c : List Value} (h : idK.K w a c) : c = [.int .i64 a.1, .int .i64 a.2] := by
  obtain ⟨c0, c1, rfl, h0, h1⟩ := h
  rw [show c0 = [.int .i64 a.1] from h0, show c1 = [.int .i64 a.2] from h1]
  rfl
def ida (L : List (Int × Int)) (i : Nat) : Int × Int := L.getD i (0, 0)
theorem ida_eq {L : List (Int × Int)} {i : Nat} (h : i < L.length) : ida L i = L[i] := by unfold ida; rw [List.getD_eq_getElem?_getD, List.getElem?_eq_getElem h]; rfl
theorem ida_get {L : List (Int × Int)} {i : Nat} (h : i < L.length) : L[i]? = some (ida L i) := by rw [ida_eq h, List.getElem?_eq_getElem h]
theorem ids_at {w : World} {A : Option Addr} {n : Nat} {L : List (Int × Int)} (h : idK.C w A n L) {i : Nat} (hi : i < n) :
    ∃ b off, A = some ⟨b, off, none⟩ ∧ w.cell? ⟨b, off + i * 2, none⟩ = some (.int .i64 (ida L i).1) ∧ w.cell? ⟨b, off + i * 2 + 1, none⟩ = some (.int .i64 (ida L i).2) := by
  obtain ⟨b, off, c, hi', hA, hc, hk, hcell⟩ := C_at h (by decide) hi
  rw [← ida_eq hi'] at hk
  have hk := idK_K hk
  subst hk
  have hs : idK.sz = 2 := rfl
  rw [hs] at hcell
  exact ⟨b, off, hA, hcell 0 _ rfl, hcell 1 _ rfl⟩
theorem eqId (a b c d : Int) (w : World) : (binOp .eql 27 (.agg #[.int .i64 a, .int .i64 b]) (.agg #[.int .i64 c, .int .i64 d])).run Try.prog w = .ok (.bool (decide ((a, b) = (c, d)))) w := by
  go_simp
  by_cases h1 : a = c <;> by_cases h2 : b = d <;> simp [h1, h2]
theorem neqId (a b c d : Int) (w : World) : (binOp .neq 27 (.agg #[.int .i64 a, .int .i64 b]) (.agg #[.int .i64 c, .int .i64 d])).run Try.prog w = .ok (.bool (!decide ((a, b) = (c, d)))) w := by
  go_simp
  by_cases h1 : a = c <;> by_cases h2 : b = d <;> simp [h1, h2]

end Go.Proofs.Ytepfhcimmbkilaa
/- A drawing region, step by step: an operation that yields in every world that meets S is taken first; S is kept behind every operation but the last one, number s, which waits for all others. No program in sight. -/
namespace Go.Proofs.Ytepfhcimmbkilaa

/-- A predicate of the context, in a form that a walk takes for a fact. -/
def At (S : World → Prop) (w : World) : Prop := S w
theorem At.mk {S : World → Prop} {w : World} (h : S w) : At S w := h
theorem At.out {S : World → Prop} {w : World} (h : At S w) : S w := h

section
variable {P : Program} {ops : Array Oper} {Q : Exit → Act → World → Prop} {md : Region.Mode} {S : World → Prop} {s : Nat}

def wpAnyS (P : Program) (md : Region.Mode) (ops : Array Oper) (Q : Exit → Act → World → Prop) (s : Nat) (S : World → Prop) : Nat → Array Bool → Act → World → Prop
  | 0, listed, a, w => Region.ready md ops listed = [] ∧ Q .normal a w
  | fuel + 1, listed, a, w =>
    (Region.ready md ops listed = [] → Q .normal a w) ∧
    ∀ i ∈ Region.ready md ops listed, wpOp P ops Q i (fun a' w' => (i ≠ s → S w') ∧ wpAnyS P md ops Q s S fuel (listed.setIfInBounds i true) a' w') a w

theorem wpAny_of_S : ∀ (fuel : Nat) (listed : Array Bool) (a : Act) (w : World), wpAnyS P md ops Q s S fuel listed a w → wpAny P md ops Q fuel listed a w
  | 0, _, _, _, h => h
  | fuel + 1, _, _, _, h => ⟨h.1, fun i hi => wpOp_mono (fun a' w' h' => wpAny_of_S fuel _ a' w' h'.2) (h.2 i hi)⟩

theorem wpAnyS_mono {S' : World → Prop} (hSS : ∀ w, S' w → S w) :
    ∀ (fuel : Nat) (listed : Array Bool) (a : Act) (w : World), wpAnyS P md ops Q s S' fuel listed a w → wpAnyS P md ops Q s S fuel listed a w
  | 0, _, _, _, h => h
  | fuel + 1, _, _, _, h => ⟨h.1, fun i hi => wpOp_mono (fun a' w' h' => ⟨fun hn => hSS _ (h'.1 hn), wpAnyS_mono hSS fuel _ a' w' h'.2⟩) (h.2 i hi)⟩

/-- Number s waits for number i. -/
def waitsFor (md : Region.Mode) (ops : Array Oper) (s i : Nat) : Bool :=
  match ops[s]? with
  | some o => o.after.any fun e => Region.binds md e && e.on == i
  | none => true

theorem wpAnyS_first {i : Nat} {oi : Oper} {v : Value} (hi : ops[i]? = some oi) (hsel : ∀ (j : Nat) (o : Oper) cs b, ops[j]? = some o → o.op ≠ .select cs b)
    (hQ : ∀ c a w, Q (.panic c) (a.put oi.dst v) w → Q (.panic c) a w) (hwait : waitsFor md ops s i = true) :
    ∀ (fuel : Nat) (listed : Array Bool) (a : Act) (w : World),
      (∀ j oj, ops[j]? = some oj → j ≠ i → listed.getD j true = false → (∀ e ∈ oj.after, Region.binds md e = true → e.on ≠ i) → oi.apart ops oj = true) →
      i ∈ Region.ready md ops listed → YieldsIf P ops S oi v a → S w →
      wpAnyS P md ops Q s S fuel (listed.setIfInBounds i true) (a.put oi.dst v) w → wpAnyS P md ops Q s S (fuel + 1) listed a w := by
  intro fuel
  induction fuel with
  | zero =>
    intro listed a w _ hr hy hS H
    refine ⟨fun h => (by rw [h] at hr; cases hr), fun j hj => ?_⟩
    by_cases hji : j = i
    · subst hji; exact hy.wpOp hi hS ⟨fun _ => hS, H⟩
    · have := ready_mono hj hji
      rw [H.1] at this
      cases this
  | succ fuel ih =>
    intro listed a w hfree hr hy hS H
    refine ⟨fun h => (by rw [h] at hr; cases hr), fun j hj => ?_⟩
    by_cases hji : j = i
    · subst hji; exact hy.wpOp hi hS ⟨fun _ => hS, H⟩
    · have h1 := H.2 j (ready_mono hj hji)
      obtain ⟨hjun, oj, hoj, hall⟩ := mem_ready.1 hj
      have hnot : ∀ e ∈ oj.after, Region.binds md e = true → e.on ≠ i := fun e he hb heq => by
        have h1 := hall e he hb
        have h0 := (mem_ready.1 hr).1
        rw [heq] at h1
        rcases Nat.lt_or_ge i listed.size with h' | h'
        · simp [h'] at h0 h1; rw [h0] at h1; cases h1
        · simp [Array.getElem?_eq_none h'] at h1
      have hjs : j ≠ s := by
        rintro rfl
        unfold waitsFor at hwait
        rw [hoj] at hwait
        simp only [Array.any_eq_true, Bool.and_eq_true, beq_iff_eq] at hwait
        obtain ⟨n, hn, hb, he⟩ := hwait
        exact hnot _ (Array.getElem_mem hn) hb he
      have h2 := wpOp_putIf hoj (hfree j oj hoj hji hjun hnot) (fun cs b => hsel i oi cs b hi) (fun cs b => hsel j oj cs b hoj) hQ hy h1
      have hfree' : ∀ k ok, ops[k]? = some ok → k ≠ i → (listed.setIfInBounds j true).getD k true = false →
          (∀ e ∈ ok.after, Region.binds md e = true → e.on ≠ i) → oi.apart ops ok = true := fun k ok hk hki hun hno => by
        refine hfree k ok hk hki ?_ hno
        by_cases hjk : j = k
        · subst hjk; exact hjun
        · rw [getD_set_ne true hjk] at hun; exact hun
      refine wpOp_mono (fun a' w' h3 => ⟨h3.2.1, ih (listed.setIfInBounds j true) a' w' hfree' (ready_mono hr (Ne.symm hji)) h3.1 (h3.2.1 hjs) ?_⟩) h2
      rw [Array.setIfInBounds_comm _ _ hji]
      exact h3.2.2
end

section
variable {P : Program} {Q : Exit → Act → World → Prop} {md : Region.Mode} {S : World → Prop} {s : Nat}

theorem rs_start (s : Nat) (S : World → Prop) (n : Nat) {id : Nat} {l : List Oper} {a : Act} {w : World} (hm : P.follows .mixedOrders = true) (hn : l.length = n)
    (h : wpAnyS P .any l.toArray Q s S n (Array.replicate n false) a w.drew) : (Code.region id l.toArray true).wp P Q a w := by
  subst hn
  exact wp_region_any hm (wpAny_of_S _ _ _ _ h)

theorem rs_take (i : Nat) {l : List Oper} {oi : Oper} {v : Value} {fuel : Nat} {listed : Array Bool} {a : Act} {w : World} (hi : l[i]? = some oi)
    (hs : Region.noSelect l.toArray = true) (hf : Region.free md l.toArray listed i = true) (hr : (Region.ready md l.toArray listed).contains i = true) (hwait : waitsFor md l.toArray s i = true)
    (hQ : ∀ c a w, Q (.panic c) (a.put oi.dst v) w → Q (.panic c) a w) (hw : Region.wanted oi (yielded l.toArray a.tmps) = true) (hS : S w)
    (hy : ∀ w', S w' → (execOp a.eval oi).run P w' = .ok (.value v) w')
    (h : wpAnyS P md l.toArray Q s S fuel (listed.setIfInBounds i true) (a.put oi.dst v) w) : wpAnyS P md l.toArray Q s S (fuel + 1) listed a w :=
  wpAnyS_first (by rw [List.getElem?_toArray]; exact hi) (Region.noSelect_spec hs) hQ hwait fuel listed a w (Region.free_spec (by rw [List.getElem?_toArray]; exact hi) hf) (by simpa using hr) (.inl ⟨hw, hy⟩) hS h

theorem rs_skip (i : Nat) {l : List Oper} {oi : Oper} {fuel : Nat} {listed : Array Bool} {a : Act} {w : World} (hi : l[i]? = some oi)
    (hs : Region.noSelect l.toArray = true) (hf : Region.free md l.toArray listed i = true) (hr : (Region.ready md l.toArray listed).contains i = true) (hwait : waitsFor md l.toArray s i = true)
    (hQ : ∀ c a w, Q (.panic c) (a.put oi.dst undef) w → Q (.panic c) a w) (hw : Region.wanted oi (yielded l.toArray a.tmps) = false) (hS : S w)
    (h : wpAnyS P md l.toArray Q s S fuel (listed.setIfInBounds i true) (a.put oi.dst undef) w) : wpAnyS P md l.toArray Q s S (fuel + 1) listed a w :=
  wpAnyS_first (by rw [List.getElem?_toArray]; exact hi) (Region.noSelect_spec hs) hQ hwait fuel listed a w (Region.free_spec (by rw [List.getElem?_toArray]; exact hi) hf) (by simpa using hr) (.inr ⟨hw, rfl⟩) hS h

def AllNexts (P : Program) (md : Region.Mode) (l : List Oper) (Q : Exit → Act → World → Prop) (s : Nat) (S : World → Prop) (fuel : Nat) (listed : Array Bool) (a : Act) (w : World) (rs : List Nat) : Prop :=
  ∀ i ∈ rs, wpOp P l.toArray Q i (fun a' w' => ∃ S', (∀ x, S' x → S x) ∧ (i ≠ s → S' w') ∧ wpAnyS P md l.toArray Q s S' fuel (listed.setIfInBounds i true) a' w') a w

theorem AllNexts.nil {l : List Oper} {fuel : Nat} {listed : Array Bool} {a : Act} {w : World} : AllNexts P md l Q s S fuel listed a w [] := fun _ h => by cases h

theorem AllNexts.cons {l : List Oper} {fuel : Nat} {listed : Array Bool} {a : Act} {w : World} {i : Nat} {o : Oper} {rs : List Nat} (ho : l[i]? = some o)
    (h : ∀ K' : Act → World → Prop, Shut (∀ (S' : World → Prop) a w', (∀ x, S' x → S x) → (i ≠ s → S' w') → wpAnyS P md l.toArray Q s S' fuel (listed.setIfInBounds i true) a w' → K' a w') → if Region.wanted o (yielded l.toArray a.tmps) = true then Oper.wp P o a w K' Q else K' (a.put o.dst undef) w)
    (hs : AllNexts P md l Q s S fuel listed a w rs) : AllNexts P md l Q s S fuel listed a w (i :: rs) := fun j hj => by
  rcases List.mem_cons.1 hj with rfl | hj
  · exact wpOp_step (by rw [List.getElem?_toArray]; exact ho) (fun K' hK => h K' (fun S' a w h1 h2 hW => hK a w ⟨S', h1, h2, hW⟩))
  · exact hs j hj

theorem rs_ready (rs : List Nat) {l : List Oper} {fuel : Nat} {listed : Array Bool} {a : Act} {w : World} (hr : Region.ready md l.toArray listed = rs) (hne : rs ≠ [])
    (h : AllNexts P md l Q s S fuel listed a w rs) : wpAnyS P md l.toArray Q s S (fuel + 1) listed a w :=
  ⟨fun h0 => absurd (hr ▸ h0) hne, hr ▸ fun i hi => wpOp_mono (fun a' w' ⟨S', h1, h2, h3⟩ => ⟨fun hn => h1 _ (h2 hn), wpAnyS_mono h1 _ _ _ _ h3⟩) (h i hi)⟩

/-- One operation alone may come up. -/
theorem rs_one (i : Nat) {l : List Oper} {o : Oper} {fuel : Nat} {listed : Array Bool} {a : Act} {w : World} (ho : l[i]? = some o) (hr : Region.ready md l.toArray listed = [i])
    (h : ∀ K' : Act → World → Prop, Shut (∀ (S' : World → Prop) a w', (∀ x, S' x → S x) → (i ≠ s → S' w') → wpAnyS P md l.toArray Q s S' fuel (listed.setIfInBounds i true) a w' → K' a w') → if Region.wanted o (yielded l.toArray a.tmps) = true then Oper.wp P o a w K' Q else K' (a.put o.dst undef) w) :
    wpAnyS P md l.toArray Q s S (fuel + 1) listed a w :=
  rs_ready [i] hr (by simp) (AllNexts.cons ho h AllNexts.nil)

theorem rs_done {l : List Oper} {listed : Array Bool} {a : Act} {w : World} {fuel : Nat} (hr : Region.ready md l.toArray listed = []) (h : Q .normal a w) : wpAnyS P md l.toArray Q s S fuel listed a w :=
  match fuel with
  | 0 => ⟨hr, h⟩
  | _ + 1 => ⟨fun _ => h, by rw [hr]; simp⟩
end
end Go.Proofs.Ytepfhcimmbkilaa
/- A drawing region, step by step: an operation that yields in every world that meets S is taken first; S is kept behind every operation but the late ones, each of which waits for what is taken, or for another late one. No program in sight. -/
namespace Go.Proofs.Ytepfhcimmbkilaa

section
variable {P : Program} {ops : Array Oper} {Q : Exit → Act → World → Prop} {md : Region.Mode} {S : World → Prop} {s : List Nat}

theorem late_abs {p : Prop} {b : Bool} (h : b = false) : b = true → p := fun h' => by rw [h] at h'; cases h'
/-- No late operation is listed. -/
def noLate (s : List Nat) (listed : Array Bool) : Bool := s.all fun j => !listed.getD j true
/-- No late operation is listed; each waits for number i, or for a late one. -/
def lateOk (md : Region.Mode) (ops : Array Oper) (s : List Nat) (listed : Array Bool) (i : Nat) : Bool :=
  !s.contains i && s.all fun j => (!listed.getD j true) && (match ops[j]? with
    | some o => o.after.any fun e => Region.binds md e && (e.on == i || s.contains e.on)
    | none => true)

def wpAnyT (P : Program) (md : Region.Mode) (ops : Array Oper) (Q : Exit → Act → World → Prop) (s : List Nat) (S : World → Prop) : Nat → Array Bool → Act → World → Prop
  | 0, listed, a, w => Region.ready md ops listed = [] ∧ Q .normal a w
  | fuel + 1, listed, a, w =>
    (Region.ready md ops listed = [] → Q .normal a w) ∧
    ∀ i ∈ Region.ready md ops listed, wpOp P ops Q i (fun a' w' => (noLate s (listed.setIfInBounds i true) = true → S w') ∧ wpAnyT P md ops Q s S fuel (listed.setIfInBounds i true) a' w') a w

theorem wpAny_of_T : ∀ (fuel : Nat) (listed : Array Bool) (a : Act) (w : World), wpAnyT P md ops Q s S fuel listed a w → wpAny P md ops Q fuel listed a w
  | 0, _, _, _, h => h
  | fuel + 1, _, _, _, h => ⟨h.1, fun i hi => wpOp_mono (fun a' w' h' => wpAny_of_T fuel _ a' w' h'.2) (h.2 i hi)⟩

theorem wpAnyT_mono {S' : World → Prop} (hSS : ∀ w, S' w → S w) :
    ∀ (fuel : Nat) (listed : Array Bool) (a : Act) (w : World), wpAnyT P md ops Q s S' fuel listed a w → wpAnyT P md ops Q s S fuel listed a w
  | 0, _, _, _, h => h
  | fuel + 1, _, _, _, h => ⟨h.1, fun i hi => wpOp_mono (fun a' w' h' => ⟨fun hn => hSS _ (h'.1 hn), wpAnyT_mono hSS fuel _ a' w' h'.2⟩) (h.2 i hi)⟩

theorem noLate_set {i : Nat} (hi : ¬ i ∈ s) (listed : Array Bool) : noLate s (listed.setIfInBounds i true) = noLate s listed := by
  unfold noLate
  rw [Bool.eq_iff_iff, List.all_eq_true, List.all_eq_true]
  refine forall_congr' fun l => forall_congr' fun hl => ?_
  have hne : i ≠ l := fun e => hi (e ▸ hl)
  rw [getD_set_ne true hne]
theorem lateOk_spec {listed : Array Bool} {i : Nat} (h : lateOk md ops s listed i = true) : (¬ i ∈ s) ∧ noLate s listed = true ∧ ∀ j, j ∈ s → ∀ o, ops[j]? = some o → ∃ e, e ∈ o.after ∧ Region.binds md e = true ∧ (e.on = i ∨ e.on ∈ s) := by
  unfold lateOk at h
  rw [Bool.and_eq_true, List.all_eq_true] at h
  refine ⟨by simpa using h.1, List.all_eq_true.2 fun j hj => ?_, fun j hj o ho => ?_⟩
  · have := h.2 j hj
    rw [Bool.and_eq_true] at this
    exact this.1
  · have := h.2 j hj
    rw [ho, Bool.and_eq_true] at this
    have h2 := this.2
    simp only [Array.any_eq_true, Bool.and_eq_true, Bool.or_eq_true, beq_iff_eq, List.contains_iff_mem] at h2
    obtain ⟨n, hn, hb, he⟩ := h2
    exact ⟨_, Array.getElem_mem hn, hb, he⟩

theorem wpAnyT_first {i : Nat} {oi : Oper} {v : Value} (hi : ops[i]? = some oi) (hsel : ∀ (j : Nat) (o : Oper) cs b, ops[j]? = some o → o.op ≠ .select cs b)
    (hQ : ∀ c a w, Q (.panic c) (a.put oi.dst v) w → Q (.panic c) a w) :
    ∀ (fuel : Nat) (listed : Array Bool) (a : Act) (w : World),
      (∀ j oj, ops[j]? = some oj → j ≠ i → listed.getD j true = false → (∀ e ∈ oj.after, Region.binds md e = true → e.on ≠ i) → oi.apart ops oj = true) →
      i ∈ Region.ready md ops listed → lateOk md ops s listed i = true → YieldsIf P ops S oi v a → S w →
      wpAnyT P md ops Q s S fuel (listed.setIfInBounds i true) (a.put oi.dst v) w → wpAnyT P md ops Q s S (fuel + 1) listed a w := by
  intro fuel
  induction fuel with
  | zero =>
    intro listed a w _ hr hwait hy hS H
    refine ⟨fun h => (by rw [h] at hr; cases hr), fun j hj => ?_⟩
    by_cases hji : j = i
    · subst hji; exact hy.wpOp hi hS ⟨fun _ => hS, H⟩
    · have := ready_mono hj hji
      rw [H.1] at this
      cases this
  | succ fuel ih =>
    intro listed a w hfree hr hwait hy hS H
    refine ⟨fun h => (by rw [h] at hr; cases hr), fun j hj => ?_⟩
    by_cases hji : j = i
    · subst hji; exact hy.wpOp hi hS ⟨fun _ => hS, H⟩
    · have h1 := H.2 j (ready_mono hj hji)
      obtain ⟨hjun, oj, hoj, hall⟩ := mem_ready.1 hj
      have hnot : ∀ e ∈ oj.after, Region.binds md e = true → e.on ≠ i := fun e he hb heq => by
        have h1 := hall e he hb
        have h0 := (mem_ready.1 hr).1
        rw [heq] at h1
        rcases Nat.lt_or_ge i listed.size with h' | h'
        · simp [h'] at h0 h1; rw [h0] at h1; cases h1
        · simp [Array.getElem?_eq_none h'] at h1
      obtain ⟨hni, hnl, hdep⟩ := lateOk_spec hwait
      have hun' : ∀ l, l ∈ s → listed.getD l true = false := fun l hl => by
        have := List.all_eq_true.1 hnl l hl
        simpa using this
      have hjs : ¬ j ∈ s := fun hj' => by
        obtain ⟨e, hmem, hb, he⟩ := hdep j hj' oj hoj
        rcases he with he | he
        · exact hnot _ hmem hb he
        · have h1 := hall _ hmem hb
          have h0 := hun' _ he
          rcases Nat.lt_or_ge e.on listed.size with h' | h'
          · simp [h'] at h0 h1; rw [h0] at h1; cases h1
          · simp [Array.getElem?_eq_none h'] at h1
      have hnj : noLate s (listed.setIfInBounds j true) = true := by rw [noLate_set hjs]; exact hnl
      have hnij : noLate s ((listed.setIfInBounds i true).setIfInBounds j true) = true := by rw [noLate_set hjs, noLate_set hni]; exact hnl
      have hwait' : lateOk md ops s (listed.setIfInBounds j true) i = true := by
        unfold lateOk at hwait ⊢
        rw [Bool.and_eq_true, List.all_eq_true] at hwait ⊢
        refine ⟨hwait.1, fun l hl => ?_⟩
        have h3 := hwait.2 l hl
        have hne : j ≠ l := fun e => hjs (e ▸ hl)
        rw [getD_set_ne true hne]
        exact h3
      have h2 := wpOp_putIf hoj (hfree j oj hoj hji hjun hnot) (fun cs b => hsel i oi cs b hi) (fun cs b => hsel j oj cs b hoj) hQ hy h1
      have hfree' : ∀ k ok, ops[k]? = some ok → k ≠ i → (listed.setIfInBounds j true).getD k true = false →
          (∀ e ∈ ok.after, Region.binds md e = true → e.on ≠ i) → oi.apart ops ok = true := fun k ok hk hki hun hno => by
        refine hfree k ok hk hki ?_ hno
        by_cases hjk : j = k
        · subst hjk; exact hjun
        · rw [getD_set_ne true hjk] at hun; exact hun
      refine wpOp_mono (fun a' w' h3 => ⟨fun _ => h3.2.1 hnij, ih (listed.setIfInBounds j true) a' w' hfree' (ready_mono hr (Ne.symm hji)) hwait' h3.1 (h3.2.1 hnij) ?_⟩) h2
      rw [Array.setIfInBounds_comm _ _ hji]
      exact h3.2.2
theorem wpAnyT_free {i : Nat} {oi : Oper} {v : Value} (hi : ops[i]? = some oi) (hsel : ∀ (j : Nat) (o : Oper) cs b, ops[j]? = some o → o.op ≠ .select cs b)
    (hQ : ∀ c a w, Q (.panic c) (a.put oi.dst v) w → Q (.panic c) a w) :
    ∀ (fuel : Nat) (listed : Array Bool) (a : Act) (w : World),
      (∀ j oj, ops[j]? = some oj → j ≠ i → listed.getD j true = false → (∀ e ∈ oj.after, Region.binds md e = true → e.on ≠ i) → oi.apart ops oj = true) →
      i ∈ Region.ready md ops listed → ¬ i ∈ s → YieldsIf P ops (fun _ => True) oi v a → (noLate s listed = true → S w) →
      wpAnyT P md ops Q s S fuel (listed.setIfInBounds i true) (a.put oi.dst v) w → wpAnyT P md ops Q s S (fuel + 1) listed a w := by
  intro fuel
  induction fuel with
  | zero =>
    intro listed a w _ hr hwait hy hS H
    refine ⟨fun h => (by rw [h] at hr; cases hr), fun j hj => ?_⟩
    by_cases hji : j = i
    · subst hji; exact hy.wpOp hi trivial ⟨fun h => hS (by rwa [noLate_set hwait] at h), H⟩
    · have := ready_mono hj hji
      rw [H.1] at this
      cases this
  | succ fuel ih =>
    intro listed a w hfree hr hwait hy hS H
    refine ⟨fun h => (by rw [h] at hr; cases hr), fun j hj => ?_⟩
    by_cases hji : j = i
    · subst hji; exact hy.wpOp hi trivial ⟨fun h => hS (by rwa [noLate_set hwait] at h), H⟩
    · have h1 := H.2 j (ready_mono hj hji)
      obtain ⟨hjun, oj, hoj, hall⟩ := mem_ready.1 hj
      have hnot : ∀ e ∈ oj.after, Region.binds md e = true → e.on ≠ i := fun e he hb heq => by
        have h1 := hall e he hb
        have h0 := (mem_ready.1 hr).1
        rw [heq] at h1
        rcases Nat.lt_or_ge i listed.size with h' | h'
        · simp [h'] at h0 h1; rw [h0] at h1; cases h1
        · simp [Array.getElem?_eq_none h'] at h1
      have hnij : noLate s (listed.setIfInBounds j true) = true → noLate s ((listed.setIfInBounds i true).setIfInBounds j true) = true := fun h => by
        rw [Array.setIfInBounds_comm _ _ (Ne.symm hji), noLate_set hwait]; exact h
      have h2 := wpOp_putIf hoj (hfree j oj hoj hji hjun hnot) (fun cs b => hsel i oi cs b hi) (fun cs b => hsel j oj cs b hoj) hQ hy h1
      have hfree' : ∀ k ok, ops[k]? = some ok → k ≠ i → (listed.setIfInBounds j true).getD k true = false →
          (∀ e ∈ ok.after, Region.binds md e = true → e.on ≠ i) → oi.apart ops ok = true := fun k ok hk hki hun hno => by
        refine hfree k ok hk hki ?_ hno
        by_cases hjk : j = k
        · subst hjk; exact hjun
        · rw [getD_set_ne true hjk] at hun; exact hun
      refine wpOp_mono (fun a' w' h3 => ⟨fun h => h3.2.1 (hnij h), ih (listed.setIfInBounds j true) a' w' hfree' (ready_mono hr (Ne.symm hji)) hwait h3.1 (fun h => h3.2.1 (hnij h)) ?_⟩) h2
      rw [Array.setIfInBounds_comm _ _ hji]
      exact h3.2.2
end

section
variable {P : Program} {Q : Exit → Act → World → Prop} {md : Region.Mode} {S : World → Prop} {s : List Nat}

theorem rt_start (s : List Nat) (S : World → Prop) (n : Nat) {id : Nat} {l : List Oper} {a : Act} {w : World} (hm : P.follows .mixedOrders = true) (hn : l.length = n)
    (h : wpAnyT P .any l.toArray Q s S n (Array.replicate n false) a w.drew) : (Code.region id l.toArray true).wp P Q a w := by
  subst hn
  exact wp_region_any hm (wpAny_of_T _ _ _ _ h)

theorem rt_take (i : Nat) {l : List Oper} {oi : Oper} {v : Value} {fuel : Nat} {listed : Array Bool} {a : Act} {w : World} (hi : l[i]? = some oi)
    (hs : Region.noSelect l.toArray = true) (hf : Region.free md l.toArray listed i = true) (hr : (Region.ready md l.toArray listed).contains i = true) (hwait : lateOk md l.toArray s listed i = true)
    (hQ : ∀ c a w, Q (.panic c) (a.put oi.dst v) w → Q (.panic c) a w) (hw : Region.wanted oi (yielded l.toArray a.tmps) = true) (hS : S w)
    (hy : ∀ w', S w' → (execOp a.eval oi).run P w' = .ok (.value v) w')
    (h : wpAnyT P md l.toArray Q s S fuel (listed.setIfInBounds i true) (a.put oi.dst v) w) : wpAnyT P md l.toArray Q s S (fuel + 1) listed a w :=
  wpAnyT_first (by rw [List.getElem?_toArray]; exact hi) (Region.noSelect_spec hs) hQ fuel listed a w (Region.free_spec (by rw [List.getElem?_toArray]; exact hi) hf) (by simpa using hr) hwait (.inl ⟨hw, hy⟩) hS h

theorem rt_free (i : Nat) {l : List Oper} {oi : Oper} {v : Value} {fuel : Nat} {listed : Array Bool} {a : Act} {w : World} (hi : l[i]? = some oi)
    (hs : Region.noSelect l.toArray = true) (hf : Region.free md l.toArray listed i = true) (hr : (Region.ready md l.toArray listed).contains i = true) (hni : s.contains i = false)
    (hQ : ∀ c a w, Q (.panic c) (a.put oi.dst v) w → Q (.panic c) a w) (hw : Region.wanted oi (yielded l.toArray a.tmps) = true) (hS : noLate s listed = true → S w)
    (hy : ∀ w', (execOp a.eval oi).run P w' = .ok (.value v) w')
    (h : wpAnyT P md l.toArray Q s S fuel (listed.setIfInBounds i true) (a.put oi.dst v) w) : wpAnyT P md l.toArray Q s S (fuel + 1) listed a w :=
  wpAnyT_free (by rw [List.getElem?_toArray]; exact hi) (Region.noSelect_spec hs) hQ fuel listed a w (Region.free_spec (by rw [List.getElem?_toArray]; exact hi) hf) (by simpa using hr) (by simpa using hni) (.inl ⟨hw, fun w' _ => hy w'⟩) hS h

theorem rt_skip (i : Nat) {l : List Oper} {oi : Oper} {fuel : Nat} {listed : Array Bool} {a : Act} {w : World} (hi : l[i]? = some oi)
    (hs : Region.noSelect l.toArray = true) (hf : Region.free md l.toArray listed i = true) (hr : (Region.ready md l.toArray listed).contains i = true) (hni : s.contains i = false)
    (hQ : ∀ c a w, Q (.panic c) (a.put oi.dst undef) w → Q (.panic c) a w) (hw : Region.wanted oi (yielded l.toArray a.tmps) = false) (hS : noLate s listed = true → S w)
    (h : wpAnyT P md l.toArray Q s S fuel (listed.setIfInBounds i true) (a.put oi.dst undef) w) : wpAnyT P md l.toArray Q s S (fuel + 1) listed a w :=
  wpAnyT_free (by rw [List.getElem?_toArray]; exact hi) (Region.noSelect_spec hs) hQ fuel listed a w (Region.free_spec (by rw [List.getElem?_toArray]; exact hi) hf) (by simpa using hr) (by simpa using hni) (.inr ⟨hw, rfl⟩) hS h

def AllNextt (P : Program) (md : Region.Mode) (l : List Oper) (Q : Exit → Act → World → Prop) (s : List Nat) (S : World → Prop) (fuel : Nat) (listed : Array Bool) (a : Act) (w : World) (rs : List Nat) : Prop :=
  ∀ i ∈ rs, wpOp P l.toArray Q i (fun a' w' => ∃ S', (∀ x, S' x → S x) ∧ (noLate s (listed.setIfInBounds i true) = true → S' w') ∧ wpAnyT P md l.toArray Q s S' fuel (listed.setIfInBounds i true) a' w') a w

theorem AllNextt.nil {l : List Oper} {fuel : Nat} {listed : Array Bool} {a : Act} {w : World} : AllNextt P md l Q s S fuel listed a w [] := fun _ h => by cases h

theorem AllNextt.cons {l : List Oper} {fuel : Nat} {listed : Array Bool} {a : Act} {w : World} {i : Nat} {o : Oper} {rs : List Nat} (ho : l[i]? = some o)
    (h : ∀ K' : Act → World → Prop, Shut (∀ (S' : World → Prop) a w', (∀ x, S' x → S x) → (noLate s (listed.setIfInBounds i true) = true → S' w') → wpAnyT P md l.toArray Q s S' fuel (listed.setIfInBounds i true) a w' → K' a w') → if Region.wanted o (yielded l.toArray a.tmps) = true then Oper.wp P o a w K' Q else K' (a.put o.dst undef) w)
    (hs : AllNextt P md l Q s S fuel listed a w rs) : AllNextt P md l Q s S fuel listed a w (i :: rs) := fun j hj => by
  rcases List.mem_cons.1 hj with rfl | hj
  · exact wpOp_step (by rw [List.getElem?_toArray]; exact ho) (fun K' hK => h K' (fun S' a w h1 h2 hW => hK a w ⟨S', h1, h2, hW⟩))
  · exact hs j hj

theorem rt_ready (rs : List Nat) {l : List Oper} {fuel : Nat} {listed : Array Bool} {a : Act} {w : World} (hr : Region.ready md l.toArray listed = rs) (hne : rs ≠ [])
    (h : AllNextt P md l Q s S fuel listed a w rs) : wpAnyT P md l.toArray Q s S (fuel + 1) listed a w :=
  ⟨fun h0 => absurd (hr ▸ h0) hne, hr ▸ fun i hi => wpOp_mono (fun a' w' ⟨S', h1, h2, h3⟩ => ⟨fun hn => h1 _ (h2 hn), wpAnyT_mono h1 _ _ _ _ h3⟩) (h i hi)⟩

/-- One operation alone may come up. -/
theorem rt_one (i : Nat) {l : List Oper} {o : Oper} {fuel : Nat} {listed : Array Bool} {a : Act} {w : World} (ho : l[i]? = some o) (hr : Region.ready md l.toArray listed = [i])
    (h : ∀ K' : Act → World → Prop, Shut (∀ (S' : World → Prop) a w', (∀ x, S' x → S x) → (noLate s (listed.setIfInBounds i true) = true → S' w') → wpAnyT P md l.toArray Q s S' fuel (listed.setIfInBounds i true) a w' → K' a w') → if Region.wanted o (yielded l.toArray a.tmps) = true then Oper.wp P o a w K' Q else K' (a.put o.dst undef) w) :
    wpAnyT P md l.toArray Q s S (fuel + 1) listed a w :=
  rt_ready [i] hr (by simp) (AllNextt.cons ho h AllNextt.nil)

theorem rt_done {l : List Oper} {listed : Array Bool} {a : Act} {w : World} {fuel : Nat} (hr : Region.ready md l.toArray listed = []) (h : Q .normal a w) : wpAnyT P md l.toArray Q s S fuel listed a w :=
  match fuel with
  | 0 => ⟨hr, h⟩
  | _ + 1 => ⟨fun _ => h, by rw [hr]; simp⟩
end
end Go.Proofs.Ytepfhcimmbkilaa
/- Commands: what their cells are. -/
namespace Go.Proofs.Ytepfhcimmbkilaa
open Go.RowKit
open Go.Proofs.YtepfhcimmbkilaaW.PrintWords

noncomputable def cdec (p : Prop) : Bool := @decide p (Classical.propDecidable p)
theorem cdec_true {p : Prop} (h : p) : cdec p = true := by unfold cdec; exact @decide_eq_true p (Classical.propDecidable p) h
theorem cdec_false {p : Prop} (h : ¬ p) : cdec p = false := by unfold cdec; exact @decide_eq_false p (Classical.propDecidable p) h
abbrev Cmd := Int × ByteArray × Nat
abbrev cmdV (a : Cmd) : Value := .agg #[.int .i64 a.1, .string a.2.1, .float .f64 a.2.2]
def cmdK : Kd Cmd := Kd.pair (Kd.int .i64) (Kd.pair Kd.string kfloat)
def CmdOk (a : Cmd) : Prop := a.2.2 < 18446744073709551616
theorem cmdK_M (w : World) (base : Nat) (ok : Nat → Prop) (a : Cmd) : cmdK.M w base ok a [.int .i64 a.1, .string a.2.1, .float .f64 a.2.2] := ⟨[.int .i64 a.1], [.string a.2.1, .float .f64 a.2.2], rfl, rfl, [.string a.2.1], [.float .f64 a.2.2], rfl, rfl, rfl⟩
theorem cmdK_K {w : World} {a : Cmd} {c : List Value} (h : cmdK.K w a c) : c = [.int .i64 a.1, .string a.2.1, .float .f64 a.2.2] := by
  obtain ⟨c0, c1, rfl, h0, c2, c3, rfl, h1, h2⟩ := h
  rw [show c0 = [.int .i64 a.1] from h0, show c2 = [.string a.2.1] from h1, show c3 = [.float .f64 a.2.2] from h2]
  rfl
def cmx (L : List Cmd) (i : Nat) : Cmd := L.getD i (0, ByteArray.empty, 0)
theorem cmx_eq {L : List Cmd} {i : Nat} (h : i < L.length) : cmx L i = L[i] := by unfold cmx; rw [List.getD_eq_getElem?_getD, List.getElem?_eq_getElem h]; rfl
theorem cmx_get {L : List Cmd} {i : Nat} (h : i < L.length) : L[i]? = some (cmx L i) := by rw [cmx_eq h, List.getElem?_eq_getElem h]
theorem cmx_mem {L : List Cmd} {i : Nat} (h : i < L.length) : cmx L i ∈ L := by rw [cmx_eq h]; exact List.getElem_mem h
theorem cmds_at {w : World} {A : Option Addr} {n : Nat} {L : List Cmd} (h : cmdK.C w A n L) {i : Nat} (hi : i < n) :
    ∃ b off, A = some ⟨b, off, none⟩ ∧ w.cell? ⟨b, off + i * 3, none⟩ = some (.int .i64 (cmx L i).1) ∧ w.cell? ⟨b, off + i * 3 + 1, none⟩ = some (.string (cmx L i).2.1) ∧ w.cell? ⟨b, off + i * 3 + 1 + 1, none⟩ = some (.float .f64 (cmx L i).2.2) := by
  obtain ⟨b, off, c, hi', hA, hc, hk, hcell⟩ := C_at h (by decide) hi
  rw [← cmx_eq hi'] at hk
  have hk := cmdK_K hk
  subst hk
  have hs : cmdK.sz = 3 := rfl
  rw [hs] at hcell
  exact ⟨b, off, hA, hcell 0 _ rfl, hcell 1 _ rfl, hcell 2 _ rfl⟩
theorem toList_inj {a b : ByteArray} (h : a.toList = b.toList) : a = b := by
  rw [ByteArray.toList_eq, ByteArray.toList_eq] at h
  exact ByteArray.ext (Array.ext' h)
theorem beq_list {a b : ByteArray} : (a.toList == b.toList) = cdec (a = b) := by
  by_cases h : a = b
  · subst h; rw [cdec_true rfl]; simp
  · rw [cdec_false h, beq_eq_false_iff_ne]; exact fun e => h (toList_inj e)
def cmdS (a b : Cmd) : Prop := a.1 = b.1 ∧ a.2.1 = b.2.1 ∧ key a.2.2 = key b.2.2
end Go.Proofs.Ytepfhcimmbkilaa
/- Keys: which texts are. -/
namespace Go.Proofs.Ytepfhcimmbkilaa
open Go.RowKit
open Go.Proofs.YtepfhcimmbkilaaW.PrintWords

@[go_sem] theorem run_store_float {P : Program} {w : World} {a : Addr} {m : Mode} (k : FloatKind) (b : Nat) : (store a (.float k b) m).run P w = stored P w a (.float k b) m := run_store P w a _ m rfl
def charK (c : Nat) : Prop := (97 ≤ c ∧ c ≤ 122) ∨ (48 ≤ c ∧ c ≤ 57)
def keyOk (s : ByteArray) : Prop := (∀ i (h : i < s.size), charK s[i].toNat) ∧ 1 ≤ s.size ∧ s.size ≤ 12
/-- What the four tests of one character tell. -/
theorem char_cases (c : Nat) : (decide ((97 : Int) ≤ (c : Int)) = true ∧ decide ((c : Int) ≤ 122) = true ∧ charK c) ∨
    (decide ((97 : Int) ≤ (c : Int)) = true ∧ decide ((c : Int) ≤ 122) = false ∧ decide ((48 : Int) ≤ (c : Int)) = true ∧ decide ((c : Int) ≤ 57) = false ∧ ¬ charK c) ∨
    (decide ((97 : Int) ≤ (c : Int)) = false ∧ decide ((48 : Int) ≤ (c : Int)) = true ∧ decide ((c : Int) ≤ 57) = true ∧ charK c) ∨
    (decide ((97 : Int) ≤ (c : Int)) = false ∧ decide ((48 : Int) ≤ (c : Int)) = true ∧ decide ((c : Int) ≤ 57) = false ∧ ¬ charK c) ∨
    (decide ((97 : Int) ≤ (c : Int)) = false ∧ decide ((48 : Int) ≤ (c : Int)) = false ∧ ¬ charK c) := by
  simp only [decide_eq_true_eq, decide_eq_false_iff_not, charK]
  omega
theorem key_end (s : ByteArray) (hall : ∀ i (h : i < s.size), charK s[i].toNat) : cdec (keyOk s) = (decide ((1 : Int) ≤ (s.size : Int)) && decide ((s.size : Int) ≤ 12)) := by
  by_cases h : 1 ≤ s.size ∧ s.size ≤ 12
  · rw [cdec_true ⟨hall, h⟩, decide_eq_true (by omega), decide_eq_true (by omega)]; rfl
  · rw [cdec_false fun h' => h h'.2]
    by_cases h1 : 1 ≤ s.size
    · rw [decide_eq_false (p := (s.size : Int) ≤ 12) (by omega), Bool.and_false]
    · rw [decide_eq_false (p := (1 : Int) ≤ (s.size : Int)) (by omega), Bool.false_and]
set_option maxHeartbeats 1000000 in
theorem ref_key (s : ByteArray) (w : World) (hs : s.size ≤ maxLen) :
    Calls Try.prog 48 #[.string s] w fun r w' => r = .returned (.bool (cdec (keyOk s))) ∧ w = w' := by
  unfold maxLen at hs
  go_enter Try.func48, Try.ntmps48
  go_wp2_with fail
  go_loop [3] (fun i => ∃ k : Nat, k ≤ s.size ∧ i = .int .i64 k ∧ ∀ j (h : j < s.size), j < k → charK s[j].toNat) (fun i => s.size - (intOf i).toNat)
  case atStart => exact ⟨0, Nat.zero_le _, rfl, fun _ _ h => absurd h (Nat.not_lt_zero _)⟩
  case round =>
    obtain ⟨k, hk, rfl, hA⟩ := hrel
    have HA := Lib.hid hA
    clear hA
    by_cases hlt : k < s.size
    · have next : charK s[k].toNat → ∀ j (h : j < s.size), j < k + 1 → charK s[j].toNat := fun hc j h hj => by
        rcases Nat.lt_or_ge j k with h1 | h1
        · exact HA.out j h h1
        · obtain rfl : j = k := by omega
          exact hc
      have stop : ¬ charK s[k].toNat → cdec (keyOk s) = false := fun hc => cdec_false fun h => hc (h.1 k hlt)
      have HN := Lib.hid next
      have HS := Lib.hid stop
      clear next stop
      rcases char_cases s[k].toNat with ⟨t1, t2, hc⟩ | ⟨t1, t2, t3, t4, hc⟩ | ⟨t1, t2, t3, hc⟩ | ⟨t1, t2, t3, hc⟩ | ⟨t1, t2, hc⟩ <;> (have HC := Lib.hid hc; clear hc)
      · go_wp2_with fail
        go_round
        case rel => exact ⟨k + 1, by omega, by go_num, HN.out HC.out⟩
        case measure => simp [intOf]; omega
      · go_wp2_with fail
        go_ret
        exact ⟨ret_bool (HS.out HC.out).symm, rfl⟩
      · go_wp2_with fail
        go_round
        case rel => exact ⟨k + 1, by omega, by go_num, HN.out HC.out⟩
        case measure => simp [intOf]; omega
      · go_wp2_with fail
        go_ret
        exact ⟨ret_bool (HS.out HC.out).symm, rfl⟩
      · go_wp2_with fail
        go_ret
        exact ⟨ret_bool (HS.out HC.out).symm, rfl⟩
    · have hk' : k = s.size := by omega
      have hall : (∀ i (h : i < s.size), charK s[i].toNat) := fun j h => HA.out j h (by omega)
      have e : cdec (keyOk s) = (decide ((1 : Int) ≤ (s.size : Int)) && decide ((s.size : Int) ≤ 12)) := by
        by_cases h : 1 ≤ s.size ∧ s.size ≤ 12
        · rw [cdec_true ⟨hall, h⟩, decide_eq_true (by omega), decide_eq_true (by omega)]; rfl
        · rw [cdec_false fun h' => h h'.2]
          by_cases h1 : 1 ≤ s.size
          · rw [decide_eq_false (p := (s.size : Int) ≤ 12) (by omega), Bool.and_false]
          · rw [decide_eq_false (p := (1 : Int) ≤ (s.size : Int)) (by omega), Bool.false_and]
      have HE := Lib.hid e
      clear e hall HA
      by_cases h1 : 1 ≤ s.size
      · have t1 : decide ((1 : Int) ≤ (s.size : Int)) = true := decide_eq_true (by omega)
        rw [t1, Bool.true_and] at HE
        clear h1
        go_wp2_with fail
        go_ret
        exact ⟨ret_bool HE.out.symm, rfl⟩
      · have t1 : decide ((1 : Int) ≤ (s.size : Int)) = false := decide_eq_false (by omega)
        rw [t1, Bool.false_and] at HE
        clear h1
        go_wp2_with fail
        go_ret
        exact ⟨ret_bool HE.out.symm, rfl⟩
theorem bytes_cell (W : World) (e : TypeId) (s : ByteArray) {j : Nat} (hj : j < s.size) : (Lib.bytesWorld W e s).cell? ⟨W.heap.size, j, none⟩ = some (.int .u8 (s[j].toNat : Int)) := by
  rw [Lib.bytesWorld_cell W e s j hj]
  have h' : j < s.data.toList.length := by rw [data_length]; exact hj
  simp [List.getD_eq_getElem?_getD, List.getElem?_eq_getElem h']
  rfl
set_option maxHeartbeats 1000000 in
theorem cmd_key (s : ByteArray) (w : World) (hs : s.size ≤ maxLen) :
    Calls Try.prog 62 #[.string s] w fun r w' => r = .returned (.bool (cdec (keyOk s))) ∧ Fr (fun _ => False) w w' := by
  unfold maxLen at hs
  have kb := fun W => print_bytes (P := Try.prog) 9 79 5 Try.underlying9 Try.underlying79 Try.underlying5 s W
  have hcell : ∀ j (h : j < s.size), (Lib.bytesWorld w 5 s).cell? ⟨w.heap.size, j, none⟩ = some (.int .u8 (s[j].toNat : Int)) := fun j h => bytes_cell w 5 s h
  have HCELL := Lib.hid hcell
  have HF := Lib.hid (Fr.of_below (S := fun _ => False) (bytes_below (Below.refl w.heap.size w) (Nat.le_refl _) 5 s))
  clear hcell
  go_enter Try.func62, Try.ntmps62
  go_wp2_with fail
  clear kb
  generalize Lib.bytesWorld w 5 s = wb at *
  go_loop [8] (fun i => ∃ k : Nat, k ≤ s.size ∧ i = .int .i64 k ∧ ∀ j (h : j < s.size), j < k → charK s[j].toNat) (fun i => s.size - (intOf i).toNat)
  case atStart => exact ⟨0, Nat.zero_le _, rfl, fun _ _ h => absurd h (Nat.not_lt_zero _)⟩
  case round =>
    obtain ⟨k, hk, rfl, hA⟩ := hrel
    have HA := Lib.hid hA
    clear hA
    by_cases hlt : k < s.size
    · have next : charK s[k].toNat → ∀ j (h : j < s.size), j < k + 1 → charK s[j].toNat := fun hc j h hj => by
        rcases Nat.lt_or_ge j k with h1 | h1
        · exact HA.out j h h1
        · obtain rfl : j = k := by omega
          exact hc
      have stop : ¬ charK s[k].toNat → cdec (keyOk s) = false := fun hc => cdec_false fun h => hc (h.1 k hlt)
      have HN := Lib.hid next
      have HS := Lib.hid stop
      have x0 := HCELL.out k hlt
      clear next stop
      rcases char_cases s[k].toNat with ⟨t1, t2, hc⟩ | ⟨t1, t2, t3, t4, hc⟩ | ⟨t1, t2, t3, hc⟩ | ⟨t1, t2, t3, hc⟩ | ⟨t1, t2, hc⟩ <;> (have HC := Lib.hid hc; clear hc)
      · go_wp2_with fail
        go_round
        case rel => exact ⟨k + 1, by omega, by go_num, HN.out HC.out⟩
        case measure => simp [intOf]; omega
      · go_wp2_with fail
        go_ret
        exact ⟨ret_bool (HS.out HC.out).symm, HF.out⟩
      · go_wp2_with fail
        go_round
        case rel => exact ⟨k + 1, by omega, by go_num, HN.out HC.out⟩
        case measure => simp [intOf]; omega
      · go_wp2_with fail
        go_ret
        exact ⟨ret_bool (HS.out HC.out).symm, HF.out⟩
      · go_wp2_with fail
        go_ret
        exact ⟨ret_bool (HS.out HC.out).symm, HF.out⟩
    · have hk' : k = s.size := by omega
      have hall : (∀ i (h : i < s.size), charK s[i].toNat) := fun j h => HA.out j h (by omega)
      have HE := Lib.hid (key_end s hall)
      clear hall HA
      by_cases h1 : 1 ≤ s.size
      · have t1 : decide ((1 : Int) ≤ (s.size : Int)) = true := decide_eq_true (by omega)
        rw [t1, Bool.true_and] at HE
        clear h1
        go_wp2_with fail
        go_ret
        exact ⟨ret_bool HE.out.symm, HF.out⟩
      · have t1 : decide ((1 : Int) ≤ (s.size : Int)) = false := decide_eq_false (by omega)
        rw [t1, Bool.false_and] at HE
        clear h1
        go_wp2_with fail
        go_ret
        exact ⟨ret_bool HE.out.symm, HF.out⟩
end Go.Proofs.Ytepfhcimmbkilaa
/- Floats told by the program: bits, the one NaN, the same. -/
namespace Go.Proofs.Ytepfhcimmbkilaa
open Go.RowKit

theorem ex_bits (b : Nat) (w : World) : (callFunc 59 #[.float .f64 b]).run Try.prog w = .ok (.value (.int .u64 b)) w := by
  rw [run_callFunc_extern Try.func59 (by kernel_rfl) (by kernel_rfl) (by kernel_rfl) (e := Extern.MathFloatBits.float64bits) (by kernel_rfl)]
  rfl
theorem ex_from (b : Nat) (w : World) : (callFunc 68 #[.int .u64 b]).run Try.prog w = .ok (.value (.float .f64 b)) w := by
  rw [run_callFunc_extern Try.func68 (by kernel_rfl) (by kernel_rfl) (by kernel_rfl) (e := Extern.MathFloatBits.float64frombits) (by kernel_rfl)]
  rfl

open Go.RowKit

def canonP (x : Nat) : Nat := if nanW x then 9221120237041090561 else x
theorem real_canon (x : Nat) (w : World) : Calls Try.prog 60 #[.float .f64 x] w fun r w' => r = .returned (.float .f64 (canonP x)) ∧ w = w' := by
  have hf : ∀ w : World, (callFunc 68 #[.int .u64 9221120237041090561]).run Try.prog w = .ok (.value (.float .f64 9221120237041090561)) w := ex_from 9221120237041090561
  by_cases hn : nanW x
  · have h1 := ford_nan (x := x) (y := x) (.inl hn)
    have hk : canonP x = 9221120237041090561 := by unfold canonP; rw [if_pos hn]
    rw [hk]
    clear hn hk
    go_enter Try.func60, Try.ntmps60
    go_wp2_with fail
    go_ret
    exact ⟨rfl, rfl⟩
  · have h1 := ford_self hn
    have hk : canonP x = x := by unfold canonP; rw [if_neg hn]
    rw [hk]
    clear hn hk
    go_enter Try.func60, Try.ntmps60
    go_wp2_with fail
    go_ret
    exact ⟨rfl, rfl⟩
theorem real_bits (x : Nat) (w : World) : Calls Try.prog 41 #[.float .f64 x] w fun r w' => r = .returned (.int .u64 (canonP x)) ∧ w = w' := by
  have hf := ex_bits (canonP x)
  go_enter Try.func41, Try.ntmps41
  go_wp2_with fail
  refine (real_canon x w).mono ?_
  rintro r w1 ⟨rfl, rfl⟩
  go_wp2_with fail
  go_ret
  exact ⟨rfl, rfl⟩
theorem key_canon {x y : Nat} (hx : x < 18446744073709551616) (hy : y < 18446744073709551616) : canonP x = canonP y ↔ key x = key y := by
  have hc : nanW 9221120237041090561 := by decide +kernel
  have e : ∀ x : Nat, x < 18446744073709551616 → x = if negW x then 9223372036854775808 + rung x else rung x := by
    intro x hx
    unfold negW rung
    have : x / 9223372036854775808 = 0 ∨ x / 9223372036854775808 = 1 := by omega
    rcases this with h | h <;> rw [h] <;> simp <;> omega
  have ex := e x hx
  have ey := e y hy
  have bx : rung x < 9223372036854775808 := Nat.mod_lt _ (by omega)
  have bY : rung y < 9223372036854775808 := Nat.mod_lt _ (by omega)
  unfold canonP key
  by_cases h1 : nanW x <;> by_cases h2 : nanW y
  · rw [if_pos h1, if_pos h2, if_pos h1, if_pos h2]; simp
  · rw [if_pos h1, if_neg h2, if_pos h1, if_neg h2]
    refine ⟨fun h => absurd (h ▸ hc) h2, fun h => ?_⟩
    exfalso
    split at h <;> omega
  · rw [if_neg h1, if_pos h2, if_neg h1, if_pos h2]
    refine ⟨fun h => absurd (h ▸ hc) h1, fun h => ?_⟩
    exfalso
    split at h <;> omega
  · rw [if_neg h1, if_neg h2, if_neg h1, if_neg h2]
    refine ⟨fun h => by rw [h], fun h => ?_⟩
    rw [ex, ey]
    cases hA : negW x <;> cases hB : negW y <;> rw [hA, hB] at h <;> simp only [if_true, if_false, Bool.false_eq_true] at h ⊢ <;> omega
theorem real_same (x y : Nat) (w : World) (hx : x < 18446744073709551616) (hy : y < 18446744073709551616) : Calls Try.prog 55 #[.float .f64 x, .float .f64 y] w fun r w' => r = .returned (.bool (decide (key x = key y))) ∧ w = w' := by
  have hc : decide (key x = key y) = ((canonP x : Int) == (canonP y : Int)) := by
    rw [Bool.eq_iff_iff, decide_eq_true_iff, beq_iff_eq, ← key_canon hx hy]
    omega
  rw [hc]
  clear hc
  go_enter Try.func55, Try.ntmps55
  go_wp2_with fail
  refine (real_bits x w).mono ?_
  rintro r w1 ⟨rfl, rfl⟩
  go_wp2_with fail
  refine (real_bits y w).mono ?_
  rintro r w1 ⟨rfl, rfl⟩
  go_wp2_with fail
  go_ret
  exact ⟨rfl, rfl⟩
end Go.Proofs.Ytepfhcimmbkilaa
/- Floats: the reference's kind. -/
namespace Go.Proofs.Ytepfhcimmbkilaa
open Go.RowKit

theorem un_neg (b : Nat) : Op.unary .neg (.float .f64 b) = pure (.float .f64 (Op.negFloat .f64 b)) := rfl
theorem rank_max : rank 9218868437227405311 = 9218868437227405311 := by decide +kernel
theorem nan_max : ¬ nanW 9218868437227405311 := by decide +kernel
theorem rung_neg (x : Nat) : rung (Op.negFloat .f64 x) = rung x := by
  show (x ^^^ 2 ^ 63) % 2 ^ 63 = x % 2 ^ 63
  rw [Nat.xor_mod_two_pow, Nat.mod_self, Nat.xor_zero]
theorem negW_neg (x : Nat) (hx : x < 18446744073709551616) : negW (Op.negFloat .f64 x) = !negW x := by
  show ((x ^^^ 2 ^ 63) / 2 ^ 63 % 2 == 1) = !(x / 2 ^ 63 % 2 == 1)
  rw [Nat.xor_div_two_pow, show 2 ^ 63 / 2 ^ 63 = 1 from by decide +kernel]
  have : x / 2 ^ 63 = 0 ∨ x / 2 ^ 63 = 1 := by omega
  rcases this with h | h <;> rw [h] <;> rfl
theorem rank_neg (x : Nat) (hx : x < 18446744073709551616) : rank (Op.negFloat .f64 x) = -rank x := by
  unfold rank
  rw [negW_neg x hx, rung_neg]
  cases negW x <;> simp
theorem nan_neg (x : Nat) : nanW (Op.negFloat .f64 x) ↔ nanW x := by unfold nanW; rw [rung_neg]
/-- A number's kind. -/
def kindP (x : Nat) : Int :=
  if nanW x then 0 else if rank x < -9218868437227405311 then 1 else if rank x < 0 then 2 else if rank x = 0 then (if negW x then 3 else 4) else if 9218868437227405311 < rank x then 6 else 5
theorem big_step : ∀ k, k < 1023 → Ieee.double.mul 4611686018427387904 (4607182418800017408 + k * 4503599627370496) = some (4607182418800017408 + (k + 1) * 4503599627370496) := by decide +kernel
theorem mulF {a b r : Nat} (h : Ieee.double.mul a b = some r) (w : World) : (binOp .mul 35 (.float .f64 a) (.float .f64 b)).run Try.prog w = .ok (.float .f64 r) w :=
  run_float_arith w .mul 35 .f64 a b r h
theorem subF {a b r : Nat} (h : Ieee.double.sub a b = some r) (w : World) : (binOp .sub 35 (.float .f64 a) (.float .f64 b)).run Try.prog w = .ok (.float .f64 r) w :=
  run_float_arith w .sub 35 .f64 a b r h
theorem addF {a b r : Nat} (h : Ieee.double.add a b = some r) (w : World) : (binOp .add 35 (.float .f64 a) (.float .f64 b)).run Try.prog w = .ok (.float .f64 r) w :=
  run_float_arith w .add 35 .f64 a b r h
set_option maxRecDepth 100000 in
theorem ref_big1 (w : World) : Calls Try.prog 65 #[] w fun r w' => r = .returned (.float .f64 9218868437227405311) ∧ w = w' := by
  go_enter Try.func65, Try.ntmps65
  go_wp2_with fail
  go_loop [1, 2] (fun v i => ∃ k : Nat, k ≤ 1023 ∧ i = .int .i64 k ∧ v = .float .f64 (4607182418800017408 + k * 4503599627370496)) (fun _ i => 1023 - (intOf i).toNat)
  case atStart => exact ⟨0, by omega, rfl, rfl⟩
  case round =>
    obtain ⟨k, hk, rfl, rfl⟩ := hrel
    rcases Nat.lt_or_ge k 1023 with hlt | hge
    · have hm := mulF (big_step k hlt)
      go_wp2_with fail
      exact ⟨⟨k + 1, by omega, by simp, rfl⟩, by simp [intOf]; omega⟩
    · obtain rfl : k = 1023 := by omega
      have h1 := quoF (a := 9214364837600034816) (b := 4841369599423283200) (r := 8980177656976769024) (by decide +kernel)
      have h2 := subF (a := 9214364837600034816) (b := 8980177656976769024) (r := 9214364837600034814) (by decide +kernel)
      have h3 := addF (a := 9214364837600034816) (b := 9214364837600034814) (r := 9218868437227405311) (by decide +kernel)
      go_wp2_with fail
      go_ret
      exact ⟨rfl, rfl⟩
theorem nan_negmax : ¬ nanW (Op.negFloat .f64 9218868437227405311) := fun h => nan_max ((nan_neg _).1 h)
theorem rank_negmax : rank (Op.negFloat .f64 9218868437227405311) = -9218868437227405311 := by rw [rank_neg _ (by omega), rank_max]
set_option maxRecDepth 100000 in
theorem ref_kind (x : Nat) (hx : x < 18446744073709551616) (w : World) : Calls Try.prog 49 #[.float .f64 x] w fun r w' => r = .returned (.int .i64 (kindP x)) ∧ w = w' := by
  have hu := un_neg 9218868437227405311
  by_cases hn : nanW x
  · have h1 : (ford x x != some .eq) = true := by rw [ford_nan (x := x) (y := x) (.inl hn)]; rfl
    have hk : kindP x = 0 := by unfold kindP; rw [if_pos hn]
    rw [hk]
    clear hn hk
    go_enter Try.func49, Try.ntmps49
    go_wp2_with fail
    refine (ref_nan _ w).mono ?_
    rintro r w1 ⟨rfl, rfl⟩
    rw [h1]
    go_wp2_with fail
    go_ret
    exact ⟨rfl, rfl⟩
  · have h1 : (ford x x != some .eq) = false := by rw [ford_self hn]; rfl
    have hN : True := trivial
    have hRN : True := trivial
    by_cases a3 : rank x = 0
    · have h3 := ford_eq hn nan_nil (by rw [rank_nil]; exact a3)
      rcases zero_cases hx a3 with rfl | rfl
      · have hk : kindP 0 = 4 := by decide +kernel
        rw [hk]
        have hq := quoF (a := 4607182418800017408) (b := 0) (r := 9218868437227405312) (by decide +kernel)
        have h5 : ford 9218868437227405312 0 = some .gt := by decide +kernel
        clear hn hk hN hRN a3
        go_enter Try.func49, Try.ntmps49
        go_wp2_with fail
        refine (ref_nan _ w).mono ?_
        rintro r w1 ⟨rfl, rfl⟩
        rw [h1]
        go_wp2_with fail
        go_ret
        exact ⟨rfl, rfl⟩
      · have hk : kindP 9223372036854775808 = 3 := by decide +kernel
        rw [hk]
        have hq := quoF (a := 4607182418800017408) (b := 9223372036854775808) (r := 18442240474082181120) (by decide +kernel)
        have h5 : ford 18442240474082181120 0 = some .lt := by decide +kernel
        clear hn hk hN hRN a3
        go_enter Try.func49, Try.ntmps49
        go_wp2_with fail
        refine (ref_nan _ w).mono ?_
        rintro r w1 ⟨rfl, rfl⟩
        rw [h1]
        go_wp2_with fail
        go_ret
        exact ⟨rfl, rfl⟩
    rcases Int.lt_or_le (rank x) 0 with a2 | a2
    · have h3 := ford_lt hn nan_nil (by rw [rank_nil]; exact a2)
      rcases Int.lt_or_le (rank x) (-9218868437227405311) with a1 | a1
      · have h4 := ford_lt hn nan_negmax (by rw [rank_negmax]; exact a1)
        have hk : kindP x = 1 := by unfold kindP; rw [if_neg hn, if_pos a1]
        rw [hk]
        clear hn hk hN hRN
        go_enter Try.func49, Try.ntmps49
        go_wp2_with fail
        refine (ref_nan _ w).mono ?_
        rintro r w1 ⟨rfl, rfl⟩
        rw [h1]
        go_wp2_with fail
        refine (ref_big1 w).mono ?_
        rintro r w1 ⟨rfl, rfl⟩
        go_wp2_with fail
        go_ret
        exact ⟨rfl, rfl⟩
      · have h4 : (ford x (Op.negFloat .f64 9218868437227405311) == some .lt) = false := by
          rcases Int.lt_or_le (-9218868437227405311) (rank x) with a | a
          · rw [ford_gt hn nan_negmax (by rw [rank_negmax]; exact a)]; rfl
          · rw [ford_eq hn nan_negmax (by rw [rank_negmax]; omega)]; rfl
        have hk : kindP x = 2 := by unfold kindP; rw [if_neg hn, if_neg (by omega), if_pos a2]
        rw [hk]
        clear hn hk hN hRN
        go_enter Try.func49, Try.ntmps49
        go_wp2_with fail
        refine (ref_nan _ w).mono ?_
        rintro r w1 ⟨rfl, rfl⟩
        rw [h1]
        go_wp2_with fail
        refine (ref_big1 w).mono ?_
        rintro r w1 ⟨rfl, rfl⟩
        go_wp2_with fail
        go_ret
        exact ⟨rfl, rfl⟩
    have h3 := ford_gt hn nan_nil (by rw [rank_nil]; omega)
    rcases Int.lt_or_le 9218868437227405311 (rank x) with a4 | a4
    · have h4 := ford_gt hn nan_max (by rw [rank_max]; exact a4)
      have hk : kindP x = 6 := by unfold kindP; rw [if_neg hn, if_neg (by omega), if_neg (by omega), if_neg a3, if_pos a4]
      rw [hk]
      clear hn hk hN hRN
      go_enter Try.func49, Try.ntmps49
      go_wp2_with fail
      refine (ref_nan _ w).mono ?_
      rintro r w1 ⟨rfl, rfl⟩
      rw [h1]
      go_wp2_with fail
      refine (ref_big1 w).mono ?_
      rintro r w1 ⟨rfl, rfl⟩
      go_wp2_with fail
      go_ret
      exact ⟨rfl, rfl⟩
    · have h4 : (ford x 9218868437227405311 == some .gt) = false := by
        rcases Int.lt_or_le (rank x) 9218868437227405311 with a | a
        · rw [ford_lt hn nan_max (by rw [rank_max]; omega)]; rfl
        · rw [ford_eq hn nan_max (by rw [rank_max]; omega)]; rfl
      have hk : kindP x = 5 := by unfold kindP; rw [if_neg hn, if_neg (by omega), if_neg (by omega), if_neg a3, if_neg (by omega)]
      rw [hk]
      clear hn hk hN hRN
      go_enter Try.func49, Try.ntmps49
      go_wp2_with fail
      refine (ref_nan _ w).mono ?_
      rintro r w1 ⟨rfl, rfl⟩
      rw [h1]
      go_wp2_with fail
      refine (ref_big1 w).mono ?_
      rintro r w1 ⟨rfl, rfl⟩
      go_wp2_with fail
      go_ret
      exact ⟨rfl, rfl⟩
end Go.Proofs.Ytepfhcimmbkilaa
