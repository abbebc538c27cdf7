/- The builtin copy, of elements of any size: what lands in the target's cells. -/
import Derived.Test.YtmfbcebbklimoaaBase
import Derived.Test.YtmfbcebbklimoaaWWords
import Derived.Laws.CopyRow
set_option linter.unusedVariables false
set_option linter.unusedSimpArgs false
namespace Go.Proofs.Ytmfbcebbklimoaa
open Go.RowKit
open Go.Proofs.YtmfbcebbklimoaaW.PrintWords
variable {P : Program}

theorem run_copy_any (w : World) (dT sT ty elem : TypeId) (g o dLen dCap : Nat) (a : Addr) (sLen sCap size : Nat) (cur : Array Value) (t : TypeId) (cs : List Value)
    (hu : P.underlying dT = some (.slice elem)) (hs : (P.info? elem).map (·.size) = some size)
    (hg : w.heap[g]? = some (.cells cur t (0, 0))) (hn : cs.length = Nat.min sLen dLen * size)
    (hsrc : ∀ j v, cs[j]? = some v → w.cell? (a.add j) = some v) (hfit : o + cs.length ≤ cur.size) (h1 : ∀ v ∈ cs, v.oneCell' = true) :
    (Builtin.copy_ #[dT, sT] ty #[.slice (some ⟨g, o, none⟩) dLen dCap, .slice (some a) sLen sCap]).run P w =
      .ok (goInt (Nat.min sLen dLen)) (w.setRow g (cur.toList.take o ++ cs ++ cur.toList.drop (o + cs.length)).toArray) := by
  have hl := run_loadCells_list (P := P) w a cs hsrc
  have hst := run_storeCells_at P g o t cs 0 cur w hg (by simpa using hfit) h1
  rw [hn] at hl
  cases hq : P.info? elem with
  | none => simp [hq] at hs
  | some i =>
    have hi : i.size = size := by simpa [hq] using hs
    simp [Builtin.copy_, run_underlying hu, Builtin.lenOf, Builtin.firstCells, sizeOf, typeInfo, hq, hi, hl, hst]
theorem Fr.setRow {S : Nat → Prop} {a b : World} (h : Fr S a b) {g : Nat} (hp : S g ∨ a.heap.size ≤ g) (cs : Array Value) : Fr S a (b.setRow g cs) :=
  h.trans' (S' := fun k => k = g) ⟨rfl, rfl, rfl, by simp, fun k _ hn => setRow_other b g k cs hn⟩ (fun i hi he => by subst he; rcases hp with hp | hp; exact hp; omega)

/-- copy(l, l[k:]) of one's own row: its head is what stood behind k. -/
theorem R_shift {α : Type} {d : Kd α} {e : Nat} {w : World} {base : Nat} {ok : Nat → Prop} {A : Option Addr} {n c : Nat} {xs : List α} (h : d.R e w base ok (.slice A n c) xs) {k : Nat} (hk : k < xs.length)
    (dT sT ty : TypeId) (hu : P.underlying dT = some (.slice e)) (hs : (P.info? e).map (·.size) = some d.sz) :
    ∃ w', (Builtin.copy_ #[dT, sT] ty #[.slice A n c, .slice (if c = k then A else A.map (·.add (k * d.sz))) (n - k) (c - k)]).run P w = .ok (.int .i64 ((n - k : Nat) : Int)) w' ∧
      d.R e w' base ok (.slice A (n - k) c) (xs.drop k) ∧ Fr (fun b => some b = (Value.slice A n c).ownBlock) w w' := by
  obtain ⟨h0, inner, ho, hr⟩ := h
  rcases ho.2 with ⟨hv, hn⟩ | ⟨g, cap, cur, hv, hb, hg, hnc, hcm, hcs, htake⟩
  · exfalso; omega
  · have hlen := ho.1
    injection hv with hA hn hc
    subst hA hn hc
    have hck : ¬ c = k := by omega
    rw [if_neg hck]
    have hsrc : ∀ j v, (inner.drop (k * d.sz))[j]? = some v → w.cell? ((⟨g, 0, none⟩ : Addr).add (k * d.sz) |>.add j) = some v := by
      intro j v hv
      rw [add_plain, add_at, blk_cell hg]
      rw [List.getElem?_drop, ← htake, List.getElem?_take] at hv
      split at hv
      · simpa using hv
      · cases hv
    have hone : ∀ v ∈ inner, v.oneCell' = true := by
      intro v hv
      obtain ⟨j, hj⟩ := List.getElem?_of_mem hv
      have hs0 : 0 < d.sz := by
        have h1 := (List.getElem?_eq_some_iff.1 hj).1
        rw [hlen] at h1
        exact Nat.pos_of_ne_zero (fun e => by rw [e] at h1; omega)
      have hjl := (List.getElem?_eq_some_iff.1 hj).1
      have hq : j / d.sz < xs.length := by rw [hlen] at hjl; exact Nat.div_lt_of_lt_mul (by rw [Nat.mul_comm]; exact hjl)
      have hp := hr.2 (j / d.sz) xs[j / d.sz] (List.getElem?_eq_getElem hq)
      refine d.K_one (d.K_of_M hp) v ?_
      apply List.mem_of_getElem? (i := j % d.sz)
      rw [List.getElem?_take, if_pos (Nat.mod_lt _ hs0), List.getElem?_drop, Nat.div_add_mod' j d.sz]
      exact hj
    have hdl : (inner.drop (k * d.sz)).length = (xs.length - k) * d.sz := by rw [List.length_drop, hlen, Nat.sub_mul]
    have hfit : 0 + (inner.drop (k * d.sz)).length ≤ cur.size := by
      rw [hdl, hcs, Nat.zero_add]; exact Nat.mul_le_mul_right _ (by omega)
    have hmin : Nat.min (xs.length - k) xs.length = xs.length - k := Nat.min_eq_left (by omega)
    have hrun := run_copy_any (P := P) w dT sT ty e g 0 xs.length c ((⟨g, 0, none⟩ : Addr).add (k * d.sz)) (xs.length - k) (c - k) d.sz cur e (inner.drop (k * d.sz)) hu hs hg (by rw [hdl, hmin]) hsrc hfit
      (fun v hv => hone v (List.mem_of_mem_drop hv))
    rw [hmin] at hrun
    refine ⟨_, hrun, ?_, (Fr.refl _ _).setRow (.inl (by simp [Value.ownBlock])) _⟩
    have hob : ∀ x y : Nat, (Value.slice (some (⟨g, 0, none⟩ : Addr)) x c).ownBlock = (Value.slice (some (⟨g, 0, none⟩ : Addr)) y c).ownBlock := fun _ _ => rfl
    refine ⟨fun j hj => h0 j hj, inner.drop (k * d.sz), ⟨by rw [hdl, List.length_drop], .inr ⟨g, c, _, by rw [List.length_drop], hb, setRow_heap w g cur _ e _ hg, by rw [List.length_drop]; omega, hcm, ?_, ?_⟩⟩, ?_⟩
    · simp only [List.size_toArray, List.length_append, List.length_take, List.length_drop, Array.length_toList, Nat.zero_add, Nat.zero_le, Nat.min_eq_left]
      rw [hlen]
      have : xs.length * d.sz - k * d.sz ≤ cur.size := by rw [← Nat.sub_mul]; rw [hdl, Nat.zero_add] at hfit; exact hfit
      omega
    · rw [List.length_drop]
      have e1 : (xs.length - k) * d.sz = (inner.drop (k * d.sz)).length := hdl.symm
      rw [e1]
      simp
    · have hr2 := Kd.reps_drop (m := k) hr
      refine hr2.imp_ (fun p cs hp => d.M_move (fun b hb => ?_) hp)
      exact setRow_other w g b _ (fun e => hb.2 (by simp [Value.ownBlock, e]))
/-- append(v, ys...): v is a row of one's own, ys' elements are read. -/
theorem R_rows_run {α : Type} (d : Kd α) {Rr : α → List Value → Prop} {W : World} (base : Nat) (t ty e : TypeId) (z : Value) (bytes : Nat)
    (ht : P.underlying t = some (.slice e)) (hinfo : (P.info? e).map (fun i => (i.zero, i.size, i.bytes)) = some (some z, d.sz, bytes)) (hz : z.cells.size = d.sz) (hs0 : 0 < d.sz) (hb0 : 0 < bytes)
    (v : Value) (xs ys : List α) (A : Option Addr) (m c : Nat) (ok okp : Nat → Prop)
    (HO : d.R e W base ok v xs) (HR : ReadsRow Rr d.sz W A m ys) (hKM : ∀ x cs, Rr x cs → d.M W base okp x cs) (hokp : ∀ k, okp k → ok k ∧ some k ≠ v.ownBlock) (hfresh : ∀ k, W.heap.size ≤ k → ok k)
    (hbase : base ≤ W.heap.size) (hl : (xs.length + m) * bytes ≤ 140737488355328) :
    ∃ v1 w1, (Builtin.append_ #[t, t] ty #[v, .slice A m c]).run P W = .ok v1 w1 ∧ d.R e w1 base ok v1 (xs ++ ys) ∧ W.grownBy w1 v.ownBlock ∧ (v1.ownBlock = v.ownBlock ∨ ∃ b, v1.ownBlock = some b ∧ W.heap.size ≤ b) := by
  obtain ⟨i0, hi, hzz⟩ := Option.map_eq_some_iff.1 hinfo
  simp only [Prod.mk.injEq] at hzz
  obtain ⟨hz0, hz1, hz2⟩ := hzz
  have hm : ys.length = m := HR.1
  have hlen : xs.length + m ≤ 140737488355328 := Nat.le_trans (Nat.le_mul_of_pos_right _ hb0) hl
  obtain ⟨hok, inner, hown, hr⟩ := HO
  rcases A with _ | ad
  · have h0 : m = 0 := by
      rcases Nat.eq_zero_or_pos m with h0 | h0
      · exact h0
      · obtain ⟨ad, h, _⟩ := HR.2.2 h0
        cases h
    subst h0
    obtain rfl : ys = [] := List.eq_nil_of_length_eq_zero hm
    refine ⟨v, W, ?_, by rw [List.append_nil]; exact ⟨hok, inner, hown, hr⟩, World.grownBy.refl W _, .inl rfl⟩
    rcases hown.2 with ⟨rfl, hn⟩ | ⟨g, cap, cur, rfl, _, _, hnc, _⟩
    · simp [Builtin.append_, run_underlying ht, sizeOf, typeInfo, hi, Builtin.lenOf, Builtin.firstCells]
    · simp [Builtin.append_, run_underlying ht, sizeOf, typeInfo, hi, Builtin.lenOf, Builtin.firstCells, hnc, storeCells]
  · obtain ⟨news, hnr, hnc⟩ := ReadsRow.inner_ HR
    have hnM : Reps (d.M W base okp) d.sz ys news := hnr.imp_ (fun p c hp => hKM p c hp)
    have hone : ∀ u ∈ news, u.oneCell' = true := by
      intro u hu
      obtain ⟨q, hq, rfl⟩ := List.mem_iff_getElem.1 hu
      have hql : q / d.sz < ys.length := by
        rw [Nat.div_lt_iff_lt_mul hs0]
        rw [← hnM.1]
        exact hq
      have hc := hnM.2 (q / d.sz) _ (List.getElem?_eq_getElem hql)
      refine d.K_one (d.K_of_M hc) _ ?_
      rw [List.mem_iff_getElem?]
      refine ⟨q % d.sz, ?_⟩
      rw [List.getElem?_take, if_pos (Nat.mod_lt _ hs0), List.getElem?_drop, Nat.mul_comm, Nat.div_add_mod, List.getElem?_eq_getElem hq]
    obtain ⟨v1, w1, hrun, h2, hg, _, hat⟩ := run_append_own_at (P := P) W base t ty e i0 z d.sz bytes ht hi hz0 hz1 hz2 hz hs0 v xs.length inner hown ad m c news (by rw [hnM.1, hm]) hnc hone (by simp only [maxLen]; omega) hl hbase
    have hat' : v1.ownBlock = v.ownBlock ∨ ∃ b, v1.ownBlock = some b ∧ W.heap.size ≤ b := by
      rcases hat with hat | hat
      · exact .inl hat
      · exact .inr ⟨_, hat, Nat.le_refl _⟩
    have hne : ∀ k, some k ≠ v.ownBlock → k < W.heap.size → some k ≠ v1.ownBlock := by
      intro k hk hlt
      rcases hat' with hat | ⟨b, hb, hle⟩
      · rw [hat]; exact hk
      · rw [hb]
        intro he
        injection he with he
        omega
    have step : ∀ {q : α} {c : List Value} {o : Nat → Prop}, d.M W base o q c → (∀ k, o k → ok k ∧ some k ≠ v.ownBlock) → d.M w1 base (fun k => ok k ∧ some k ≠ v1.ownBlock) q c := by
      intro q c o hq ho
      have h1 := d.M_move (w1 := w1) (fun k hk => hg.block k hk.2.2.1 (ho k hk.1).2) (d.M_bound hq)
      exact d.M_mono (fun k hk => ⟨(ho k hk.1).1, hne k (ho k hk.1).2 hk.2.2.1⟩) h1
    refine ⟨v1, w1, hrun, ⟨fun k hk => ?_, inner ++ news, by rw [List.length_append, hm]; exact h2, Kd.reps_append (hr.imp_ (fun _ _ hq => step hq (fun _ hk => hk))) (hnM.imp_ (fun _ _ hq => step hq hokp))⟩, hg, hat'⟩
    rcases hat' with hat | ⟨b, hb, hle⟩
    · exact hok k (hat ▸ hk)
    · rw [hb] at hk
      injection hk with hk
      exact hfresh k (by omega)
/-- An empty row, in new memory (the literal []T{}). -/
theorem R_empty {α : Type} (d : Kd α) (e : TypeId) (w : World) : d.R e (w.alloc (.cells #[] e)) w.heap.size (fun k => w.heap.size ≤ k) (.slice (some ⟨w.heap.size, 0, none⟩) 0 0) [] :=
  ⟨fun k hk => by simp [Value.ownBlock] at hk; omega, [], ⟨by simp, .inr ⟨w.heap.size, 0, #[], rfl, Nat.le_refl _, heap_alloc_new w _, Nat.le_refl _, Nat.zero_le _, by simp, by simp⟩⟩, Reps.none _ _⟩
end Go.Proofs.Ytmfbcebbklimoaa
