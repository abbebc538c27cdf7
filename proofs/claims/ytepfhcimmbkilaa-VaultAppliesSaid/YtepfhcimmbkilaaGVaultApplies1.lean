/- Texts of VaultApplies, merged (1 of 33): Base, RealP, Flt. -/
import Derived.Test.YtepfhcimmbkilaaRows
import Derived.WalkKit
import Derived.WalkSpells
import Derived.WalkLawsBesides
import Derived.Deep.Draws
import Derived.Lib.Hide
import Ieee.Arith
import Derived.Laws.Externs
import Derived.Laws.FloatArith
set_option linter.unusedVariables false
set_option linter.unusedSimpArgs false
/- Words and lemmas about memory that the walks use: which old blocks a call may have changed, and what a block holds. No program in sight. -/
namespace Go.Proofs.Ytepfhcimmbkilaa
open Go.RowKit

theorem ret_bool {a b : Bool} (h : a = b) : Ending.returned (.bool a) = .returned (.bool b) := by rw [h]
theorem ret_int {k : IntKind} {a b : Int} (h : a = b) : Ending.returned (.int k a) = .returned (.int k b) := by rw [h]

/-- Of the blocks that were there only those of S may have changed. -/
structure Fr (S : Nat → Prop) (w w' : World) : Prop where
  os : w'.os = w.os
  tape : w'.tape = w.tape
  output : w'.output = w.output
  size : w.heap.size ≤ w'.heap.size
  block : ∀ k, k < w.heap.size → ¬ S k → w'.heap[k]? = w.heap[k]?

namespace Fr
variable {S S' : Nat → Prop} {a b c w w' : World}
theorem refl (S : Nat → Prop) (w : World) : Fr S w w := ⟨rfl, rfl, rfl, Nat.le_refl _, fun _ _ _ => rfl⟩
theorem trans' (h : Fr S a b) (k : Fr S' b c) (hs : ∀ i, i < a.heap.size → S' i → S i) : Fr S a c :=
  ⟨k.os.trans h.os, k.tape.trans h.tape, k.output.trans h.output, Nat.le_trans h.size k.size,
    fun i hi hn => (k.block i (Nat.lt_of_lt_of_le hi h.size) (fun hk => hn (hs i hi hk))).trans (h.block i hi hn)⟩
theorem trans (h : Fr S a b) (k : Fr S b c) : Fr S a c := h.trans' k (fun _ _ h => h)
theorem mono (h : Fr S a b) (hs : ∀ i, i < a.heap.size → S i → S' i) : Fr S' a b :=
  ⟨h.os, h.tape, h.output, h.size, fun i hi hn => h.block i hi (fun hk => hn (hs i hi hk))⟩
theorem drew (h : Fr S a b) : Fr S a b.drew := ⟨h.os, h.tape, h.output, h.size, h.block⟩
theorem drewN (h : Fr S a b) (n : Nat) : Fr S a (b.drewN n) := ⟨h.os, h.tape, h.output, h.size, h.block⟩
theorem alloc (h : Fr S a b) (o : Obj) : Fr S a (b.alloc o) :=
  h.trans' (S' := fun _ => False) ⟨rfl, rfl, rfl, by simp, fun k hk _ => Below.heap_alloc _ _ _ hk⟩ (fun _ _ h => h.elim)
theorem setCell (h : Fr S a b) {p : Addr} (hp : S p.block ∨ a.heap.size ≤ p.block) (u : Value) : Fr S a (b.setCell p u) :=
  h.trans' (S' := fun k => k = p.block) ⟨rfl, rfl, rfl, by simp [World.setCell], fun k _ hn => Below.heap_setCell _ _ _ _ hn⟩
    (fun i hi he => by subst he; rcases hp with hp | hp; exact hp; omega)
theorem of_below (h : Below w.heap.size w w') : Fr S w w' := ⟨h.os, h.tape, h.output, h.size, fun k hk _ => h.block k hk⟩
theorem of_grown {row : Option Nat} (h : w.grownBy w' row) : Fr (fun k => some k = row) w w' := ⟨h.os, h.tape, h.output, h.size, fun k hk hn => h.block k hk hn⟩
theorem below (h : Fr S w w') (hs : ∀ i, i < w.heap.size → ¬ S i) : Below w.heap.size w w' := ⟨h.os, h.tape, h.output, h.size, fun k hk => h.block k hk (hs k hk)⟩
theorem grown {g : Nat} (h : Fr (fun k => k = g) w w') : w.grownBy w' (some g) := ⟨h.os, h.tape, h.output, h.size, fun k hk hn => h.block k hk (fun e => hn (by rw [e]))⟩
theorem get (h : Fr S w w') {g : Nat} {o : Obj} (hg : w.heap[g]? = some o) (hn : ¬ S g) : w'.heap[g]? = some o :=
  (h.block g (Array.getElem?_eq_some_iff.1 hg).1 hn).trans hg
theorem cell (h : Fr S w w') {p : Addr} {v : Value} (hc : w.cell? p = some v) (hn : ¬ S p.block) : w'.cell? p = some v :=
  (World.cell?_of_block (h.block p.block (World.block_lt_of_cell? w p hc) hn)).trans hc
theorem set1 {g : Nat} (h : Fr (· = g) a b) (i : Nat) (u : Value) : Fr (· = g) a (b.setCell ⟨g, i, none⟩ u) := h.setCell (p := ⟨g, i, none⟩) (.inl rfl) u
end Fr

/-- Block g is just the cells cs of type t, none frozen. -/
def Blk (w : World) (g : Nat) (t : TypeId) (cs : Array Value) : Prop := w.heap[g]? = some (.cells cs t (0, 0))
namespace Blk
variable {w w' : World} {g : Nat} {t : TypeId} {cs : Array Value} {S : Nat → Prop}
theorem lt (h : Blk w g t cs) : g < w.heap.size := (Array.getElem?_eq_some_iff.1 h).1
theorem cell (h : Blk w g t cs) (i : Nat) : w.cell? ⟨g, i, none⟩ = cs[i]? := cell_of_row w g i cs t (0, 0) h
theorem frozen (h : Blk w g t cs) (i : Nat) : w.frozen? ⟨g, i, none⟩ = false := by
  unfold Blk at h
  simp [World.frozen?, h]
theorem new (w : World) (t : TypeId) (cs : Array Value) : Blk (w.alloc (.cells cs t)) w.heap.size t cs := heap_alloc_new w _
theorem drew (h : Blk w g t cs) : Blk w.drew g t cs := h
theorem drewN (h : Blk w g t cs) (n : Nat) : Blk (w.drewN n) g t cs := h
theorem alloc (h : Blk w g t cs) (o : Obj) : Blk (w.alloc o) g t cs := (Below.heap_alloc w o g h.lt).trans h
theorem set_ (h : Blk w g t cs) (i : Nat) (u : Value) : Blk (w.setCell ⟨g, i, none⟩ u) g t (cs.setIfInBounds i u) := by
  unfold Blk at h ⊢
  simp [World.setCell, Array.getElem?_modify, h]
theorem far (h : Blk w g t cs) {p : Addr} (hp : g ≠ p.block) (u : Value) : Blk (w.setCell p u) g t cs := (Below.heap_setCell w p u g hp).trans h
theorem fr (h : Blk w g t cs) (hb : Fr S w w') (hn : ¬ S g) : Blk w' g t cs := hb.get h hn
theorem ne_ {g' : Nat} {t' : TypeId} {cs' : Array Value} (h : Blk w g t cs) (h' : Blk w g' t' cs') (hne : t ≠ t') : g ≠ g' := by
  rintro rfl
  unfold Blk at h h'
  rw [h] at h'
  injection h' with h'
  injection h' with _ ht
  exact hne ht
end Blk

end Go.Proofs.Ytepfhcimmbkilaa
/- Doubles, plain: how two words stand is how their ranks stand. No program in sight. -/
namespace Go.Proofs.Ytepfhcimmbkilaa
open Ieee

def rung (x : Nat) : Nat := x % 9223372036854775808
def negW (x : Nat) : Bool := x / 9223372036854775808 % 2 == 1
def nanW (x : Nat) : Prop := 9218868437227405312 < rung x
instance (x : Nat) : Decidable (nanW x) := inferInstanceAs (Decidable (_ < _))
def rank (x : Nat) : Int := if negW x then -(rung x : Int) else rung x

/-- The magnitude of a finite rung, in units of the least one. -/
def scale (r : Nat) : Nat := if r < 4503599627370496 then r else (4503599627370496 + r % 4503599627370496) * 2 ^ (r / 4503599627370496 - 1)

theorem scale_step (r : Nat) : scale r < scale (r + 1) := by
  unfold scale
  rcases Nat.lt_or_ge (r + 1) 4503599627370496 with h | h
  · rw [if_pos (by omega), if_pos h]; omega
  · rcases Nat.lt_or_ge r 4503599627370496 with h1 | h1
    · have : r = 4503599627370495 := by omega
      subst this
      decide
    · rw [if_neg (by omega), if_neg (by omega)]
      rcases Nat.lt_or_ge (r % 4503599627370496 + 1) 4503599627370496 with h2 | h2
      · have e1 : (r + 1) / 4503599627370496 = r / 4503599627370496 := by omega
        have e2 : (r + 1) % 4503599627370496 = r % 4503599627370496 + 1 := by omega
        rw [e1, e2]
        exact Nat.mul_lt_mul_of_pos_right (by omega) (Nat.two_pow_pos _)
      · have e1 : (r + 1) / 4503599627370496 = r / 4503599627370496 + 1 := by omega
        have e2 : (r + 1) % 4503599627370496 = 0 := by omega
        have e3 : r / 4503599627370496 + 1 - 1 = (r / 4503599627370496 - 1) + 1 := by omega
        rw [e1, e2, e3, Nat.pow_succ, Nat.add_zero, Nat.mul_comm (2 ^ _) 2, ← Nat.mul_assoc]
        exact Nat.mul_lt_mul_of_pos_right (by omega) (Nat.two_pow_pos _)
theorem scale_mono {a b : Nat} (h : a < b) : scale a < scale b := by
  induction b with
  | zero => omega
  | succ b ih =>
    rcases Nat.lt_or_ge a b with h1 | h1
    · exact Nat.lt_trans (ih h1) (scale_step b)
    · have : a = b := by omega
      subst this; exact scale_step a
theorem scale_zero : scale 0 = 0 := rfl

def sval (n : Bool) (r : Nat) : Int := if n then -(scale r : Int) else scale r
theorem sval_cmp (x y : Nat) : compare (sval (negW x) (rung x)) (sval (negW y) (rung y)) = compare (rank x) (rank y) := by
  have key : ∀ a b : Nat, (scale a < scale b ↔ a < b) := fun a b => ⟨fun h => by
    rcases Nat.lt_or_ge a b with h1 | h1
    · exact h1
    · rcases Nat.eq_or_lt_of_le h1 with h2 | h2
      · subst h2; omega
      · have := scale_mono h2; omega, scale_mono⟩
  have k1 := key (rung x) (rung y)
  have k2 := key (rung y) (rung x)
  have k3 := key 0 (rung x)
  have k4 := key 0 (rung y)
  rw [scale_zero] at k3 k4
  have hlt : sval (negW x) (rung x) < sval (negW y) (rung y) ↔ rank x < rank y := by
    unfold sval rank
    cases negW x <;> cases negW y <;> simp only [if_true, if_false, Bool.false_eq_true] <;> omega
  have heq : sval (negW x) (rung x) = sval (negW y) (rung y) ↔ rank x = rank y := by
    unfold sval rank
    cases negW x <;> cases negW y <;> simp only [if_true, if_false, Bool.false_eq_true] <;> omega
  show compareOfLessAndEq _ _ = compareOfLessAndEq _ _
  unfold compareOfLessAndEq
  by_cases h1 : rank x < rank y
  · rw [if_pos h1, if_pos (hlt.2 h1)]
  · rw [if_neg h1, if_neg (fun h => h1 (hlt.1 h))]
    by_cases h2 : rank x = rank y
    · rw [if_pos h2, if_pos (heq.2 h2)]
    · rw [if_neg h2, if_neg (fun h => h2 (heq.1 h))]

theorem cmp_scale (a b : Int) (p : Nat) (hp : 0 < p) : compare (a * p) (b * p) = compare a b := by
  have hlt : a * p < b * p ↔ a < b := Int.mul_lt_mul_right (by omega)
  have heq : a * p = b * p ↔ a = b := Int.mul_eq_mul_right_iff (by omega)
  show compareOfLessAndEq _ _ = compareOfLessAndEq _ _
  unfold compareOfLessAndEq
  by_cases h1 : a < b
  · rw [if_pos h1, if_pos (hlt.2 h1)]
  · rw [if_neg h1, if_neg (fun h => h1 (hlt.1 h))]
    by_cases h2 : a = b
    · rw [if_pos h2, if_pos (heq.2 h2)]
    · rw [if_neg h2, if_neg (fun h => h2 (heq.1 h))]

theorem signed_mul (s : Bool) (m u p : Nat) : signed s m u * (2 ^ p : Nat) = signed s m (u + p) := by
  unfold signed
  rw [Nat.shiftLeft_eq, Nat.shiftLeft_eq, Nat.pow_add]
  cases s
  · simp only [if_false, Bool.false_eq_true]; push_cast; rw [Int.mul_assoc]
  · simp only [if_true]; push_cast; rw [Int.neg_mul, Int.mul_assoc]

/-- What a finite word reads as: its sign, and a magnitude at a place such that in units of the least one it is its scale. -/
theorem read_num (x : Nat) (h : rung x < 9218868437227405312) : ∃ m a : Nat, double.read x = .number (negW x) m (-1074 + (a : Int)) ∧ m * 2 ^ a = scale (rung x) := by
  unfold scale
  have e1 : double.signWeight = 9223372036854775808 := by decide +kernel
  have e2 : double.binade = 4503599627370496 := by decide +kernel
  have e3 : double.infRung = 9218868437227405312 := by decide +kernel
  have e4 : double.leastPlace = -1074 := by decide +kernel
  unfold Format.read
  rw [e1, e2, e3, e4]
  simp only
  change x % 9223372036854775808 < _ at h
  rcases Nat.lt_or_ge (x % 9223372036854775808) 4503599627370496 with h1 | h1
  · refine ⟨x % 9223372036854775808, 0, ?_, ?_⟩
    · rw [if_pos h1]; rfl
    · unfold rung; rw [if_pos h1]; omega
  · refine ⟨4503599627370496 + x % 9223372036854775808 % 4503599627370496, x % 9223372036854775808 / 4503599627370496 - 1, ?_, ?_⟩
    · rw [if_neg (by omega), if_pos h]; rfl
    · unfold rung; rw [if_neg (by omega)]
theorem read_inf (x : Nat) (h : rung x = 9218868437227405312) : double.read x = .infinity (negW x) := by
  have e1 : double.signWeight = 9223372036854775808 := by decide +kernel
  have e2 : double.binade = 4503599627370496 := by decide +kernel
  have e3 : double.infRung = 9218868437227405312 := by decide +kernel
  unfold Format.read
  rw [e1, e2, e3]
  simp only
  change x % 9223372036854775808 = _ at h
  rw [if_neg (by omega), if_neg (by omega), if_pos h]; rfl
theorem read_nan (x : Nat) (h : nanW x) : ∃ t, double.read x = .nan (negW x) t := by
  have e1 : double.signWeight = 9223372036854775808 := by decide +kernel
  have e2 : double.binade = 4503599627370496 := by decide +kernel
  have e3 : double.infRung = 9218868437227405312 := by decide +kernel
  unfold Format.read
  rw [e1, e2, e3]
  simp only
  change _ < x % 9223372036854775808 at h
  refine ⟨x % 9223372036854775808 - 9218868437227405312, ?_⟩
  rw [if_neg (by omega), if_neg (by omega), if_neg (by omega)]; rfl

theorem order_nan (x y : Nat) (h : nanW x ∨ nanW y) : double.order x y = none := by
  unfold Format.order
  rcases h with h | h
  · obtain ⟨t, e⟩ := read_nan x h
    rw [e]; rfl
  · obtain ⟨t, e⟩ := read_nan y h
    rw [e]
    cases double.read x <;> rfl
theorem order_rank (x y : Nat) (hx : ¬ nanW x) (hy : ¬ nanW y) : double.order x y = some (compare (rank x) (rank y)) := by
  unfold Format.order
  unfold nanW at hx hy
  have cmp : ∀ a b : Int, (a < b → compare a b = .lt) ∧ (b < a → compare a b = .gt) ∧ (a = b → compare a b = .eq) := fun a b => by
    refine ⟨fun h => ?_, fun h => ?_, fun h => ?_⟩ <;> show compareOfLessAndEq a b = _ <;> unfold compareOfLessAndEq
    · rw [if_pos h]
    · rw [if_neg (by omega), if_neg (by omega)]
    · rw [if_neg (by omega), if_pos h]
  rcases Nat.lt_or_ge (rung x) 9218868437227405312 with h1 | h1
  · obtain ⟨m, a, e, hm⟩ := read_num x h1
    rw [e]
    rcases Nat.lt_or_ge (rung y) 9218868437227405312 with h2 | h2
    · obtain ⟨n, b, f, hn⟩ := read_num y h2
      rw [f]
      unfold Datum.order
      simp only
      congr 1
      rw [← sval_cmp]
      have hb : ∀ a b : Nat, ((-1074 + (a : Int)) - min (-1074 + (a : Int)) (-1074 + (b : Int))).toNat + min a b = a := fun a b => by omega
      have hb2 : ∀ a b : Nat, ((-1074 + (b : Int)) - min (-1074 + (a : Int)) (-1074 + (b : Int))).toNat + min a b = b := fun a b => by omega
      rw [← cmp_scale _ _ (2 ^ min a b) (Nat.two_pow_pos _), signed_mul, signed_mul, hb, hb2]
      have hs : ∀ (s : Bool) (m a r : Nat), m * 2 ^ a = scale r → signed s m a = sval s r := fun s m a r h => by
        unfold signed sval
        rw [Nat.shiftLeft_eq, h]
      rw [hs _ _ _ _ hm, hs _ _ _ _ hn]
    · rw [read_inf y (by omega)]
      have hy2 : rung y = 9218868437227405312 := by omega
      unfold Datum.order
      simp only
      congr 1
      have hr : rank y = if negW y then -9218868437227405312 else 9218868437227405312 := by unfold rank; rw [hy2]; rfl
      have hq : -9218868437227405312 < rank x ∧ rank x < 9218868437227405312 := by unfold rank; cases negW x <;> simp only [if_true, if_false, Bool.false_eq_true] <;> omega
      rw [hr]
      cases negW y
      · exact ((cmp _ _).1 hq.2).symm
      · exact ((cmp _ _).2.1 hq.1).symm
  · have hx2 : rung x = 9218868437227405312 := by omega
    rw [read_inf x hx2]
    have hr : rank x = if negW x then -9218868437227405312 else 9218868437227405312 := by unfold rank; rw [hx2]; rfl
    rcases Nat.lt_or_ge (rung y) 9218868437227405312 with h2 | h2
    · obtain ⟨n, b, f, hn⟩ := read_num y h2
      rw [f]
      unfold Datum.order
      simp only
      congr 1
      have hq : -9218868437227405312 < rank y ∧ rank y < 9218868437227405312 := by unfold rank; cases negW y <;> simp only [if_true, if_false, Bool.false_eq_true] <;> omega
      rw [hr]
      cases negW x
      · exact ((cmp _ _).2.1 hq.2).symm
      · exact ((cmp _ _).1 hq.1).symm
    · have hy2 : rung y = 9218868437227405312 := by omega
      have hr2 : rank y = if negW y then -9218868437227405312 else 9218868437227405312 := by unfold rank; rw [hy2]; rfl
      rw [read_inf y hy2, hr, hr2]
      cases negW x <;> cases negW y <;> rfl
end Go.Proofs.Ytepfhcimmbkilaa
/- Floats told by the reference: which two are the same (one NaN, two zeros). -/
namespace Go.Proofs.Ytepfhcimmbkilaa
open Go.RowKit

abbrev ford (x y : Nat) : Option Ordering := FloatKind.f64.format.order x y
theorem ref_nan (x : Nat) (w : World) : Calls Try.prog 64 #[.float .f64 x] w fun r w' => r = .returned (.bool (ford x x != some .eq)) ∧ w = w' := by
  go_enter Try.func64, Try.ntmps64
  go_wp2_with fail
  go_ret
  exact ⟨rfl, rfl⟩
theorem cmp_lt {a b : Int} (h : a < b) : compare a b = .lt := by show compareOfLessAndEq a b = _; unfold compareOfLessAndEq; rw [if_pos h]
theorem cmp_gt {a b : Int} (h : b < a) : compare a b = .gt := by show compareOfLessAndEq a b = _; unfold compareOfLessAndEq; rw [if_neg (by omega), if_neg (by omega)]
theorem cmp_eq {a b : Int} (h : a = b) : compare a b = .eq := by show compareOfLessAndEq a b = _; unfold compareOfLessAndEq; rw [if_neg (by omega), if_pos h]
theorem ford_nan {x y : Nat} (h : nanW x ∨ nanW y) : ford x y = none := order_nan x y h
theorem ford_lt {x y : Nat} (hx : ¬ nanW x) (hy : ¬ nanW y) (h : rank x < rank y) : ford x y = some .lt := (order_rank x y hx hy).trans (by rw [cmp_lt h])
theorem ford_gt {x y : Nat} (hx : ¬ nanW x) (hy : ¬ nanW y) (h : rank y < rank x) : ford x y = some .gt := (order_rank x y hx hy).trans (by rw [cmp_gt h])
theorem ford_eq {x y : Nat} (hx : ¬ nanW x) (hy : ¬ nanW y) (h : rank x = rank y) : ford x y = some .eq := (order_rank x y hx hy).trans (by rw [cmp_eq h])
theorem rank_nil : rank 0 = 0 := by decide +kernel
theorem nan_nil : ¬ nanW 0 := by decide +kernel
theorem zero_cases {x : Nat} (hx : x < 18446744073709551616) (h : rank x = 0) : x = 0 ∨ x = 9223372036854775808 := by
  unfold rank rung at h
  cases hn : negW x <;> rw [hn] at h <;> simp only [if_true, if_false, Bool.false_eq_true] at h <;> omega
theorem ford_self {x : Nat} (h : ¬ nanW x) : ford x x = some .eq := ford_eq h h rfl
/-- How a number stands: the NaNs first, then the rest, -0 ahead of +0. -/
def key (x : Nat) : Int := if nanW x then -18446744073709551616 else if negW x then -(rung x : Int) - 1 else rung x
theorem quoF {a b r : Nat} (h : Ieee.double.div a b = some r) (w : World) : (binOp .quo 35 (.float .f64 a) (.float .f64 b)).run Try.prog w = .ok (.float .f64 r) w :=
  run_float_arith w .quo 35 .f64 a b r h
theorem key_rank {x y : Nat} (n1 : ¬ nanW x) (n2 : ¬ nanW y) (h : rank x ≠ 0 ∨ rank y ≠ 0) : key x = key y ↔ rank x = rank y := by
  unfold key
  rw [if_neg n1, if_neg n2]
  unfold rank at h ⊢
  cases hA : negW x <;> cases hB : negW y <;> rw [hA, hB] at h <;> simp only [if_true, if_false, Bool.false_eq_true] at h ⊢ <;> omega
theorem key_nan {x y : Nat} (n1 : nanW x) (n2 : ¬ nanW y) : key x ≠ key y := by
  have : rung y < 9223372036854775808 := Nat.mod_lt _ (by omega)
  unfold key
  rw [if_pos n1, if_neg n2]
  split <;> omega
theorem ford_ne0 {x : Nat} (n : ¬ nanW x) (h : rank x ≠ 0) : (ford x 0 == some .eq) = false := by
  rcases Int.lt_trichotomy (rank x) 0 with a | a | a
  · rw [ford_lt n nan_nil (by rw [rank_nil]; exact a)]; rfl
  · exact absurd a h
  · rw [ford_gt n nan_nil (by rw [rank_nil]; exact a)]; rfl
theorem ford_same {x y : Nat} (n1 : ¬ nanW x) (n2 : ¬ nanW y) : (ford x y == some .eq) = decide (rank x = rank y) := by
  rcases Int.lt_trichotomy (rank x) (rank y) with a | a | a
  · rw [ford_lt n1 n2 a, decide_eq_false (by omega)]; rfl
  · rw [ford_eq n1 n2 a, decide_eq_true a]; rfl
  · rw [ford_gt n1 n2 a, decide_eq_false (by omega)]; rfl
set_option maxRecDepth 100000 in
theorem ref_same (x y : Nat) (w : World) (hx : x < 18446744073709551616) (hy : y < 18446744073709551616) : Calls Try.prog 50 #[.float .f64 x, .float .f64 y] w fun r w' => r = .returned (.bool (decide (key x = key y))) ∧ w = w' := by
  by_cases n1 : nanW x
  · have h1 : (ford x x != some .eq) = true := by rw [ford_nan (x := x) (y := x) (.inl n1)]; rfl
    by_cases n2 : nanW y
    · have h2 : (ford y y != some .eq) = true := by rw [ford_nan (x := y) (y := y) (.inl n2)]; rfl
      have hk : decide (key x = key y) = true := by rw [decide_eq_true_iff]; unfold key; rw [if_pos n1, if_pos n2]
      rw [hk]
      clear n1 n2 hk
      go_enter Try.func50, Try.ntmps50
      go_wp2_with fail
      refine (ref_nan _ w).mono ?_
      rintro r w1 ⟨rfl, rfl⟩
      rw [h1]
      go_wp2_with fail
      refine (ref_nan _ w).mono ?_
      rintro r w1 ⟨rfl, rfl⟩
      rw [h1]
      go_wp2_with fail
      refine (ref_nan _ w).mono ?_
      rintro r w1 ⟨rfl, rfl⟩
      rw [h2]
      go_wp2_with fail
      go_ret
      exact ⟨rfl, rfl⟩
    · have h2 : (ford y y != some .eq) = false := by rw [ford_self n2]; rfl
      have hk : decide (key x = key y) = false := by rw [decide_eq_false_iff_not]; exact key_nan n1 n2
      rw [hk]
      clear n1 n2 hk
      go_enter Try.func50, Try.ntmps50
      go_wp2_with fail
      refine (ref_nan _ w).mono ?_
      rintro r w1 ⟨rfl, rfl⟩
      rw [h1]
      go_wp2_with fail
      refine (ref_nan _ w).mono ?_
      rintro r w1 ⟨rfl, rfl⟩
      rw [h1]
      go_wp2_with fail
      refine (ref_nan _ w).mono ?_
      rintro r w1 ⟨rfl, rfl⟩
      rw [h2]
      go_wp2_with fail
      go_ret
      exact ⟨rfl, rfl⟩
  · have h1 : (ford x x != some .eq) = false := by rw [ford_self n1]; rfl
    by_cases n2 : nanW y
    · have h2 : (ford y y != some .eq) = true := by rw [ford_nan (x := y) (y := y) (.inl n2)]; rfl
      have hk : decide (key x = key y) = false := by rw [decide_eq_false_iff_not]; exact fun h => key_nan n2 n1 h.symm
      rw [hk]
      clear n1 n2 hk
      go_enter Try.func50, Try.ntmps50
      go_wp2_with fail
      refine (ref_nan _ w).mono ?_
      rintro r w1 ⟨rfl, rfl⟩
      rw [h1]
      go_wp2_with fail
      refine (ref_nan _ w).mono ?_
      rintro r w1 ⟨rfl, rfl⟩
      rw [h2]
      go_wp2_with fail
      refine (ref_nan _ w).mono ?_
      rintro r w1 ⟨rfl, rfl⟩
      rw [h1]
      go_wp2_with fail
      go_ret
      exact ⟨rfl, rfl⟩
    · have h2 : (ford y y != some .eq) = false := by rw [ford_self n2]; rfl
      by_cases a : rank x = 0
      · have h3 : (ford x 0 == some .eq) = true := by rw [ford_eq n1 nan_nil (by rw [rank_nil]; exact a)]; rfl
        by_cases b : rank y = 0
        · have h4 : (ford y 0 == some .eq) = true := by rw [ford_eq n2 nan_nil (by rw [rank_nil]; exact b)]; rfl
          have q0 := quoF (a := 4607182418800017408) (b := 0) (r := 9218868437227405312) (by decide +kernel)
          have q1 := quoF (a := 4607182418800017408) (b := 9223372036854775808) (r := 18442240474082181120) (by decide +kernel)
          rcases zero_cases hx a with rfl | rfl <;> rcases zero_cases hy b with rfl | rfl
          · have hk : decide (key 0 = key 0) = true := by decide +kernel
            have h5 : (ford 9218868437227405312 9218868437227405312 == some .eq) = true := by decide +kernel
            rw [hk]
            clear n1 n2 hk a b
            go_enter Try.func50, Try.ntmps50
            go_wp2_with fail
            refine (ref_nan _ w).mono ?_
            rintro r w1 ⟨rfl, rfl⟩
            rw [h1]
            go_wp2_with fail
            refine (ref_nan _ w).mono ?_
            rintro r w1 ⟨rfl, rfl⟩
            rw [h2]
            go_wp2_with fail
            go_ret
            exact ⟨rfl, rfl⟩
          · have hk : decide (key 0 = key 9223372036854775808) = false := by decide +kernel
            have h5 : (ford 9218868437227405312 18442240474082181120 == some .eq) = false := by decide +kernel
            rw [hk]
            clear n1 n2 hk a b
            go_enter Try.func50, Try.ntmps50
            go_wp2_with fail
            refine (ref_nan _ w).mono ?_
            rintro r w1 ⟨rfl, rfl⟩
            rw [h1]
            go_wp2_with fail
            refine (ref_nan _ w).mono ?_
            rintro r w1 ⟨rfl, rfl⟩
            rw [h2]
            go_wp2_with fail
            go_ret
            exact ⟨rfl, rfl⟩
          · have hk : decide (key 9223372036854775808 = key 0) = false := by decide +kernel
            have h5 : (ford 18442240474082181120 9218868437227405312 == some .eq) = false := by decide +kernel
            rw [hk]
            clear n1 n2 hk a b
            go_enter Try.func50, Try.ntmps50
            go_wp2_with fail
            refine (ref_nan _ w).mono ?_
            rintro r w1 ⟨rfl, rfl⟩
            rw [h1]
            go_wp2_with fail
            refine (ref_nan _ w).mono ?_
            rintro r w1 ⟨rfl, rfl⟩
            rw [h2]
            go_wp2_with fail
            go_ret
            exact ⟨rfl, rfl⟩
          · have hk : decide (key 9223372036854775808 = key 9223372036854775808) = true := by decide +kernel
            have h5 : (ford 18442240474082181120 18442240474082181120 == some .eq) = true := by decide +kernel
            rw [hk]
            clear n1 n2 hk a b
            go_enter Try.func50, Try.ntmps50
            go_wp2_with fail
            refine (ref_nan _ w).mono ?_
            rintro r w1 ⟨rfl, rfl⟩
            rw [h1]
            go_wp2_with fail
            refine (ref_nan _ w).mono ?_
            rintro r w1 ⟨rfl, rfl⟩
            rw [h2]
            go_wp2_with fail
            go_ret
            exact ⟨rfl, rfl⟩
        · have h4 := ford_ne0 n2 b
          have h5 := ford_same n1 n2
          have hk : decide (key x = key y) = decide (rank x = rank y) := by rw [Bool.eq_iff_iff, decide_eq_true_iff, decide_eq_true_iff]; exact key_rank n1 n2 (.inr b)
          rw [hk, ← h5]
          clear n1 n2 hk a b h5
          go_enter Try.func50, Try.ntmps50
          go_wp2_with fail
          refine (ref_nan _ w).mono ?_
          rintro r w1 ⟨rfl, rfl⟩
          rw [h1]
          go_wp2_with fail
          refine (ref_nan _ w).mono ?_
          rintro r w1 ⟨rfl, rfl⟩
          rw [h2]
          go_wp2_with fail
          go_ret
          exact ⟨rfl, rfl⟩
      · have h3 := ford_ne0 n1 a
        have h5 := ford_same n1 n2
        have hk : decide (key x = key y) = decide (rank x = rank y) := by rw [Bool.eq_iff_iff, decide_eq_true_iff, decide_eq_true_iff]; exact key_rank n1 n2 (.inl a)
        rw [hk, ← h5]
        clear n1 n2 hk a h5
        go_enter Try.func50, Try.ntmps50
        go_wp2_with fail
        refine (ref_nan _ w).mono ?_
        rintro r w1 ⟨rfl, rfl⟩
        rw [h1]
        go_wp2_with fail
        refine (ref_nan _ w).mono ?_
        rintro r w1 ⟨rfl, rfl⟩
        rw [h2]
        go_wp2_with fail
        go_ret
        exact ⟨rfl, rfl⟩
end Go.Proofs.Ytepfhcimmbkilaa
