/- Rows of elements of a fixed form: a whole block of them, read, owned, copied. No program in sight. -/
import Derived.Test.YtmfbcebbklimoaaCopy
set_option linter.unusedVariables false
set_option linter.unusedSimpArgs false
namespace Go.Proofs.Ytmfbcebbklimoaa
open Go.RowKit
open Go.Proofs.YtmfbcebbklimoaaW.PrintWords

/-- The cells of an element are a function of it. -/
structure Flat {α : Type} (d : Kd α) (enc : α → List Value) : Prop where
  len : ∀ x, (enc x).length = d.sz
  K : ∀ {w x c}, d.K w x c → c = enc x
  M : ∀ w base ok x, d.M w base ok x (enc x)
namespace Flat
variable {α : Type} {d : Kd α} {enc : α → List Value} {P : Program}
theorem flen (h : Flat d enc) (L : List α) : (L.flatMap enc).length = L.length * d.sz := by
  induction L with
  | nil => simp
  | cons a l ih => rw [List.flatMap_cons, List.length_append, ih, h.len, List.length_cons, Nat.add_mul, Nat.one_mul, Nat.add_comm]
theorem one (h : Flat d enc) (L : List α) : ∀ v ∈ L.flatMap enc, v.oneCell' = true := fun v hv => by
  obtain ⟨x, _, hx⟩ := List.mem_flatMap.1 hv
  exact d.K_one (d.K_of_M (h.M ⟨#[], fun _ _ => 0, 0, default, default⟩ 0 (fun _ => True) x)) v hx
theorem segs (h : Flat d enc) : ∀ (L : List α) (j : Nat) (p : α), L[j]? = some p → ((L.flatMap enc).drop (j * d.sz)).take d.sz = enc p
  | [], j, p, hj => by simp at hj
  | a :: l, 0, p, hj => by
    simp at hj
    subst hj
    rw [List.flatMap_cons, Nat.zero_mul, List.drop_zero, ← h.len a, List.take_left]
  | a :: l, j + 1, p, hj => by
    rw [List.flatMap_cons, Nat.add_mul, Nat.one_mul, Nat.add_comm, ← List.drop_drop, ← h.len a, List.drop_left, h.len a]
    exact segs h l j p (by simpa using hj)
theorem reps (h : Flat d enc) {R : α → List Value → Prop} (hR : ∀ x, R x (enc x)) (L : List α) : Reps R d.sz L (L.flatMap enc) := ⟨h.flen L, fun j p hj => by rw [h.segs L j p hj]; exact hR p⟩
theorem of_reps (h : Flat d enc) : ∀ (L : List α) (inner : List Value), Reps (fun p c => c = enc p) d.sz L inner → inner = L.flatMap enc
  | [], inner, hr => by have := hr.1; simp at this; rw [this]; rfl
  | a :: l, inner, hr => by
    have h0 := hr.2 0 a rfl
    simp only [Nat.zero_mul, List.drop_zero] at h0
    have h1 := Kd.reps_drop (m := 1) hr
    simp only [List.drop_succ_cons, List.drop_zero, Nat.one_mul] at h1
    rw [List.flatMap_cons, ← of_reps h l _ h1, ← h0, List.take_append_drop]
theorem blk_R (h : Flat d enc) {w : World} {g : Nat} {e : TypeId} {L : List α} (hB : Blk w g e (L.flatMap enc).toArray) {base : Nat} (hb : base ≤ g) {ok : Nat → Prop} (hok : ok g) (hl : L.length ≤ 9223372036854775807) :
    d.R e w base ok (.slice (some ⟨g, 0, none⟩) L.length L.length) L :=
  ⟨fun k hk => by simp [Value.ownBlock] at hk; rw [← hk]; exact hok, L.flatMap enc, ⟨h.flen L, .inr ⟨g, L.length, _, rfl, hb, hB, Nat.le_refl _, by simp [maxLen]; omega, by simp [h.flen L], by rw [← h.flen L]; exact List.take_length⟩⟩, h.reps (fun x => h.M _ _ _ x) L⟩
theorem blk_C (h : Flat d enc) {w : World} {g : Nat} {e : TypeId} {L : List α} (hB : Blk w g e (L.flatMap enc).toArray) (hl : L.length ≤ 9223372036854775807) : d.C w (some ⟨g, 0, none⟩) L.length L :=
  (Kd.R_reads' (h.blk_R hB (Nat.zero_le g) (ok := fun _ => True) trivial hl)).2.2
theorem src (h : Flat d enc) {w : World} {ad : Addr} {n : Nat} {L : List α} (hC : d.C w (some ad) n L) : ∀ j u, (L.flatMap enc)[j]? = some u → w.cell? (ad.add j) = some u := by
  obtain ⟨inner, hr, hc⟩ := ReadsRow.inner_ hC
  rw [← h.of_reps L inner (hr.imp_ (fun p c hp => h.K hp))]
  exact hc
/-- copy(v, ys), v a whole block of as many elements. -/
theorem copy_all (h : Flat d enc) {w : World} {g : Nat} {e : TypeId} {cur : Array Value} (hB : Blk w g e cur) {n : Nat} (hcur : cur.size = n * d.sz) {A : Option Addr} {c : Nat} {L : List α} (hC : d.C w A n L) (dT sT ty : TypeId) (hu : P.underlying dT = some (.slice e)) (hs : (P.info? e).map (·.size) = some d.sz) :
    ∃ w', (Builtin.copy_ #[dT, sT] ty #[.slice (some ⟨g, 0, none⟩) n n, .slice A n c]).run P w = .ok (.int .i64 (n : Int)) w' ∧ Blk w' g e (L.flatMap enc).toArray ∧ Fr (· = g) w w' := by
  have hl : L.length = n := hC.1
  have hfl := h.flen L
  rw [hl] at hfl
  rcases A with _ | ad
  · have h0 : n = 0 := by
      rcases Nat.eq_zero_or_pos n with h0 | h0
      · exact h0
      · obtain ⟨ad, he, _⟩ := hC.2.2 h0
        cases he
    subst h0
    have hL : L = [] := List.eq_nil_of_length_eq_zero hl
    subst hL
    have hcu : cur = #[] := Array.eq_empty_of_size_eq_zero (by rw [hcur, Nat.zero_mul])
    subst hcu
    refine ⟨w, ?_, by simpa using hB, Fr.refl _ _⟩
    cases hq : P.info? e with
    | none => simp [hq] at hs
    | some i => simp [Builtin.copy_, run_underlying hu, Builtin.lenOf, Builtin.firstCells, sizeOf, typeInfo, hq, storeCells, goInt]
  · have hrun := run_copy_any (P := P) w dT sT ty e g 0 n n ad n c d.sz cur e (L.flatMap enc) hu hs hB (by rw [hfl]; simp) (h.src hC) (by rw [hfl, hcur]; omega) (h.one L)
    rw [show Nat.min n n = n from Nat.min_self n] at hrun
    refine ⟨_, hrun, ?_, (Fr.refl (fun x => x = g) w).setRow (.inl rfl) _⟩
    have hr := setRow_heap w g cur (cur.toList.take 0 ++ L.flatMap enc ++ cur.toList.drop (0 + (L.flatMap enc).length)).toArray e (0, 0) hB
    have he : (cur.toList.take 0 ++ L.flatMap enc ++ cur.toList.drop (0 + (L.flatMap enc).length)).toArray = (L.flatMap enc).toArray := by
      rw [List.take_zero, List.nil_append, Nat.zero_add, hfl, List.drop_of_length_le (by rw [Array.length_toList, hcur]; exact Nat.le_refl _), List.append_nil]
    rw [he] at hr ⊢
    exact hr
end Flat
end Go.Proofs.Ytmfbcebbklimoaa
