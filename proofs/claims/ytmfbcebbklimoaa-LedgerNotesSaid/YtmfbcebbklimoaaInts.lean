/- Rows of whole numbers and of bools: what is read, and stored; what the reference's SameInts tells. -/
import Derived.Test.YtmfbcebbklimoaaOpen
import Derived.Test.YtmfbcebbklimoaaBase
import Derived.Deep.QuietTactic
import Derived.BigQuiet
set_option linter.unusedVariables false
set_option linter.unusedSimpArgs false
namespace Go.Proofs.Ytmfbcebbklimoaa
open Go.RowKit
open Go.Proofs.YtmfbcebbklimoaaW.PrintWords

abbrev intK : Kd Int := Kd.int .i64
def ix (L : List Int) (i : Nat) : Int := L.getD i 0
theorem ix_eq {L : List Int} {i : Nat} (h : i < L.length) : ix L i = L[i] := by unfold ix; rw [List.getD_eq_getElem?_getD, List.getElem?_eq_getElem h]; rfl
theorem ix_get {L : List Int} {i : Nat} (h : i < L.length) : L[i]? = some (ix L i) := by rw [ix_eq h, List.getElem?_eq_getElem h]
theorem ix_mem {L : List Int} {i : Nat} (h : i < L.length) : ix L i ∈ L := by rw [ix_eq h]; exact List.getElem_mem h
theorem ix_set {L : List Int} {i j : Nat} {x : Int} (h : i < L.length) : ix (L.set i x) j = if i = j then x else ix L j := by
  unfold ix
  rw [List.getD_eq_getElem?_getD, List.getD_eq_getElem?_getD, List.getElem?_set]
  by_cases e : i = j
  · subst e; simp [h]
  · simp [e]
theorem ints_at {w : World} {A : Option Addr} {n : Nat} {L : List Int} (h : intK.C w A n L) {i : Nat} (hi : i < n) : ∃ b off, A = some ⟨b, off, none⟩ ∧ w.cell? ⟨b, off + i, none⟩ = some (.int .i64 (ix L i)) := by
  obtain ⟨b, off, c, hi', hA, hc, hk, hcell⟩ := C_at h (by decide) hi
  have hs : intK.sz = 1 := rfl
  rw [← ix_eq hi'] at hk
  rw [show c = [.int .i64 (ix L i)] from hk, hs, Nat.mul_one] at hcell
  exact ⟨b, off, hA, hcell 0 _ rfl⟩
/-- The address is the same at all places. -/
theorem ints_all {w : World} {A : Option Addr} {n : Nat} {L : List Int} (h : intK.C w A n L) (hn : 0 < n) : ∃ b off, A = some ⟨b, off, none⟩ ∧ ∀ i, i < n → w.cell? ⟨b, off + i, none⟩ = some (.int .i64 (ix L i)) := by
  obtain ⟨b, off, rfl, _⟩ := ints_at h hn
  refine ⟨b, off, rfl, fun i hi => ?_⟩
  obtain ⟨b', off', e, hc⟩ := ints_at h hi
  injection e with e
  injection e with e1 e2
  subst e1 e2
  exact hc
def IntsAt (w : World) (g : Nat) (s : List Int) : Prop := Blk w g 3 (s.map (Value.int .i64)).toArray
namespace IntsAt
variable {w w' : World} {g : Nat} {s : List Int} {S : Nat → Prop}
theorem cell (h : IntsAt w g s) {i : Nat} (hi : i < s.length) : w.cell? ⟨g, i, none⟩ = some (.int .i64 (ix s i)) ∧ w.frozen? ⟨g, i, none⟩ = false := by
  refine ⟨?_, Blk.frozen h i⟩
  rw [Blk.cell h i]
  simp [ix_get hi]
theorem set_ (h : IntsAt w g s) (i : Nat) (x : Int) : IntsAt (w.setCell ⟨g, i, none⟩ (.int .i64 x)) g (s.set i x) := by
  have := Blk.set_ h i (.int .i64 x)
  unfold IntsAt
  simpa [List.map_set] using this
theorem fr (h : IntsAt w g s) (hF : Fr S w w') (hn : ¬ S g) : IntsAt w' g s := Blk.fr h hF hn
theorem drew (h : IntsAt w g s) : IntsAt w.drew g s := h
theorem drewN (h : IntsAt w g s) (n : Nat) : IntsAt (w.drewN n) g s := h
theorem lt (h : IntsAt w g s) : g < w.heap.size := Blk.lt h
theorem reads (h : IntsAt w g s) (hl : s.length ≤ 9223372036854775807) : intK.C w (some ⟨g, 0, none⟩) s.length s := by
  refine Kd.C_of_reads (d := (0 : Int)) ⟨rfl, hl, fun h0 => ⟨_, rfl, fun j hj => ?_⟩⟩
  rw [add_plain]
  exact (h.cell hj).1
theorem made (w : World) (m : Nat) : IntsAt (w.alloc (.cells (madeCells #[.int .i64 0] m) 3)) w.heap.size (List.replicate m 0) := by
  have h := Blk.new w 3 (madeCells #[.int .i64 0] m)
  have hl : madeCells #[Value.int .i64 0] m = ((List.replicate m (0 : Int)).map (Value.int .i64)).toArray := by
    apply Array.ext'
    apply List.ext_getElem
    · simp [madeCells]
    · intro i h1 h2
      simp [madeCells, Nat.mod_one]
  unfold IntsAt
  rwa [← hl]
/-- .. as a row of one's own that is full. -/
theorem own (h : IntsAt w g s) {base : Nat} (hb : base ≤ g) (hl : s.length ≤ 9223372036854775807) (ok : Nat → Prop) (hok : ok g) : intK.R 3 w base ok (.slice (some ⟨g, 0, none⟩) s.length s.length) s := by
  refine Kd.R_of_own ⟨by simp [encs], .inr ⟨g, s.length, _, rfl, hb, h, Nat.le_refl _, by simp [maxLen]; omega, by simp, by simp only [encs, Nat.mul_one, List.take_of_length_le (show (s.map (Value.int .i64)).length ≤ s.length by simp)]⟩⟩ (fun k hk => ?_)
  simp [Value.ownBlock] at hk
  subst hk
  exact hok
end IntsAt
def bx (s : List Bool) (i : Nat) : Bool := s.getD i false
def BoolsAt (w : World) (g : Nat) (s : List Bool) : Prop := Blk w g 4 (s.map Value.bool).toArray
namespace BoolsAt
variable {w w' : World} {g : Nat} {s : List Bool} {S : Nat → Prop}
theorem cell (h : BoolsAt w g s) {i : Nat} (hi : i < s.length) : w.cell? ⟨g, i, none⟩ = some (.bool (bx s i)) ∧ w.frozen? ⟨g, i, none⟩ = false := by
  refine ⟨?_, Blk.frozen h i⟩
  rw [Blk.cell h i]
  simp [bx, hi]
theorem set_ (h : BoolsAt w g s) (i : Nat) (x : Bool) : BoolsAt (w.setCell ⟨g, i, none⟩ (.bool x)) g (s.set i x) := by
  have := Blk.set_ h i (.bool x)
  unfold BoolsAt
  simpa [List.map_set] using this
theorem fr (h : BoolsAt w g s) (hF : Fr S w w') (hn : ¬ S g) : BoolsAt w' g s := Blk.fr h hF hn
theorem drew (h : BoolsAt w g s) : BoolsAt w.drew g s := h
theorem drewN (h : BoolsAt w g s) (n : Nat) : BoolsAt (w.drewN n) g s := h
theorem lt (h : BoolsAt w g s) : g < w.heap.size := Blk.lt h
theorem made (w : World) (m : Nat) : BoolsAt (w.alloc (.cells (madeCells #[.bool false] m) 4)) w.heap.size (List.replicate m false) := by
  have h := Blk.new w 4 (madeCells #[.bool false] m)
  have hl : madeCells #[Value.bool false] m = ((List.replicate m false).map Value.bool).toArray := by
    apply Array.ext'
    apply List.ext_getElem
    · simp [madeCells]
    · intro i h1 h2
      simp [madeCells, Nat.mod_one]
  unfold BoolsAt
  rwa [← hl]
end BoolsAt

end Go.Proofs.Ytmfbcebbklimoaa
