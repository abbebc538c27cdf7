/- Texts of VaultSwaps, merged (3 of 8): Copy, Flat, Bi, CmdF, MapR, VaultD, VaultG, Keys7, KeysU, SortS, VaultK. -/
import Derived.Test.YtepfhcimmbkilaaGVaultSwaps1
import Derived.Test.YtepfhcimmbkilaaWWords
import Derived.Laws.CopyRow
import Derived.Maps.Keyed
import Derived.Maps.Range
import Derived.DeepKeys3
import Derived.Test.YtepfhcimmbkilaaGVaultSwaps2
import Derived.Carry
import Derived.Deep.QuietTactic
import Derived.BigQuiet
import Derived.Sort.Walk0
import Derived.Test.YtepfhcimmbkilaaShelfS
import Derived.Sort.OwnSorted
set_option linter.unusedVariables false
set_option linter.unusedSimpArgs false
/- The builtin copy, of elements of any size: what lands in the target's cells. -/
namespace Go.Proofs.Ytepfhcimmbkilaa
open Go.RowKit
open Go.Proofs.YtepfhcimmbkilaaW.PrintWords
variable {P : Program}

theorem run_copy_any (w : World) (dT sT ty elem : TypeId) (g o dLen dCap : Nat) (a : Addr) (sLen sCap size : Nat) (cur : Array Value) (t : TypeId) (cs : List Value)
    (hu : P.underlying dT = some (.slice elem)) (hs : (P.info? elem).map (·.size) = some size)
    (hg : w.heap[g]? = some (.cells cur t (0, 0))) (hn : cs.length = Nat.min sLen dLen * size)
    (hsrc : ∀ j v, cs[j]? = some v → w.cell? (a.add j) = some v) (hfit : o + cs.length ≤ cur.size) (h1 : ∀ v ∈ cs, v.oneCell' = true) :
    (Builtin.copy_ #[dT, sT] ty #[.slice (some ⟨g, o, none⟩) dLen dCap, .slice (some a) sLen sCap]).run P w =
      .ok (goInt (Nat.min sLen dLen)) (w.setRow g (cur.toList.take o ++ cs ++ cur.toList.drop (o + cs.length)).toArray) := by
  have hl := run_loadCells_list (P := P) w a cs hsrc
  have hst := run_storeCells_at P g o t cs 0 cur w hg (by simpa using hfit) h1
  rw [hn] at hl
  cases hq : P.info? elem with
  | none => simp [hq] at hs
  | some i =>
    have hi : i.size = size := by simpa [hq] using hs
    simp [Builtin.copy_, run_underlying hu, Builtin.lenOf, Builtin.firstCells, sizeOf, typeInfo, hq, hi, hl, hst]
theorem Fr.setRow {S : Nat → Prop} {a b : World} (h : Fr S a b) {g : Nat} (hp : S g ∨ a.heap.size ≤ g) (cs : Array Value) : Fr S a (b.setRow g cs) :=
  h.trans' (S' := fun k => k = g) ⟨rfl, rfl, rfl, by simp, fun k _ hn => setRow_other b g k cs hn⟩ (fun i hi he => by subst he; rcases hp with hp | hp; exact hp; omega)

/-- copy(l, l[k:]) of one's own row: its head is what stood behind k. -/
theorem R_shift {α : Type} {d : Kd α} {e : Nat} {w : World} {base : Nat} {ok : Nat → Prop} {A : Option Addr} {n c : Nat} {xs : List α} (h : d.R e w base ok (.slice A n c) xs) {k : Nat} (hk : k < xs.length)
    (dT sT ty : TypeId) (hu : P.underlying dT = some (.slice e)) (hs : (P.info? e).map (·.size) = some d.sz) :
    ∃ w', (Builtin.copy_ #[dT, sT] ty #[.slice A n c, .slice (if c = k then A else A.map (·.add (k * d.sz))) (n - k) (c - k)]).run P w = .ok (.int .i64 ((n - k : Nat) : Int)) w' ∧
      d.R e w' base ok (.slice A (n - k) c) (xs.drop k) ∧ Fr (fun b => some b = (Value.slice A n c).ownBlock) w w' := by
  obtain ⟨h0, inner, ho, hr⟩ := h
  rcases ho.2 with ⟨hv, hn⟩ | ⟨g, cap, cur, hv, hb, hg, hnc, hcm, hcs, htake⟩
  · exfalso; omega
  · have hlen := ho.1
    injection hv with hA hn hc
    subst hA hn hc
    have hck : ¬ c = k := by omega
    rw [if_neg hck]
    have hsrc : ∀ j v, (inner.drop (k * d.sz))[j]? = some v → w.cell? ((⟨g, 0, none⟩ : Addr).add (k * d.sz) |>.add j) = some v := by
      intro j v hv
      rw [add_plain, add_at, blk_cell hg]
      rw [List.getElem?_drop, ← htake, List.getElem?_take] at hv
      split at hv
      · simpa using hv
      · cases hv
    have hone : ∀ v ∈ inner, v.oneCell' = true := by
      intro v hv
      obtain ⟨j, hj⟩ := List.getElem?_of_mem hv
      have hs0 : 0 < d.sz := by
        have h1 := (List.getElem?_eq_some_iff.1 hj).1
        rw [hlen] at h1
        exact Nat.pos_of_ne_zero (fun e => by rw [e] at h1; omega)
      have hjl := (List.getElem?_eq_some_iff.1 hj).1
      have hq : j / d.sz < xs.length := by rw [hlen] at hjl; exact Nat.div_lt_of_lt_mul (by rw [Nat.mul_comm]; exact hjl)
      have hp := hr.2 (j / d.sz) xs[j / d.sz] (List.getElem?_eq_getElem hq)
      refine d.K_one (d.K_of_M hp) v ?_
      apply List.mem_of_getElem? (i := j % d.sz)
      rw [List.getElem?_take, if_pos (Nat.mod_lt _ hs0), List.getElem?_drop, Nat.div_add_mod' j d.sz]
      exact hj
    have hdl : (inner.drop (k * d.sz)).length = (xs.length - k) * d.sz := by rw [List.length_drop, hlen, Nat.sub_mul]
    have hfit : 0 + (inner.drop (k * d.sz)).length ≤ cur.size := by
      rw [hdl, hcs, Nat.zero_add]; exact Nat.mul_le_mul_right _ (by omega)
    have hmin : Nat.min (xs.length - k) xs.length = xs.length - k := Nat.min_eq_left (by omega)
    have hrun := run_copy_any (P := P) w dT sT ty e g 0 xs.length c ((⟨g, 0, none⟩ : Addr).add (k * d.sz)) (xs.length - k) (c - k) d.sz cur e (inner.drop (k * d.sz)) hu hs hg (by rw [hdl, hmin]) hsrc hfit
      (fun v hv => hone v (List.mem_of_mem_drop hv))
    rw [hmin] at hrun
    refine ⟨_, hrun, ?_, (Fr.refl _ _).setRow (.inl (by simp [Value.ownBlock])) _⟩
    have hob : ∀ x y : Nat, (Value.slice (some (⟨g, 0, none⟩ : Addr)) x c).ownBlock = (Value.slice (some (⟨g, 0, none⟩ : Addr)) y c).ownBlock := fun _ _ => rfl
    refine ⟨fun j hj => h0 j hj, inner.drop (k * d.sz), ⟨by rw [hdl, List.length_drop], .inr ⟨g, c, _, by rw [List.length_drop], hb, setRow_heap w g cur _ e _ hg, by rw [List.length_drop]; omega, hcm, ?_, ?_⟩⟩, ?_⟩
    · simp only [List.size_toArray, List.length_append, List.length_take, List.length_drop, Array.length_toList, Nat.zero_add, Nat.zero_le, Nat.min_eq_left]
      rw [hlen]
      have : xs.length * d.sz - k * d.sz ≤ cur.size := by rw [← Nat.sub_mul]; rw [hdl, Nat.zero_add] at hfit; exact hfit
      omega
    · rw [List.length_drop]
      have e1 : (xs.length - k) * d.sz = (inner.drop (k * d.sz)).length := hdl.symm
      rw [e1]
      simp
    · have hr2 := Kd.reps_drop (m := k) hr
      refine hr2.imp_ (fun p cs hp => d.M_move (fun b hb => ?_) hp)
      exact setRow_other w g b _ (fun e => hb.2 (by simp [Value.ownBlock, e]))
/-- append(v, ys...): v is a row of one's own, ys' elements are read. -/
theorem R_rows_run {α : Type} (d : Kd α) {Rr : α → List Value → Prop} {W : World} (base : Nat) (t ty e : TypeId) (z : Value) (bytes : Nat)
    (ht : P.underlying t = some (.slice e)) (hinfo : (P.info? e).map (fun i => (i.zero, i.size, i.bytes)) = some (some z, d.sz, bytes)) (hz : z.cells.size = d.sz) (hs0 : 0 < d.sz) (hb0 : 0 < bytes)
    (v : Value) (xs ys : List α) (A : Option Addr) (m c : Nat) (ok okp : Nat → Prop)
    (HO : d.R e W base ok v xs) (HR : ReadsRow Rr d.sz W A m ys) (hKM : ∀ x cs, Rr x cs → d.M W base okp x cs) (hokp : ∀ k, okp k → ok k ∧ some k ≠ v.ownBlock) (hfresh : ∀ k, W.heap.size ≤ k → ok k)
    (hbase : base ≤ W.heap.size) (hl : (xs.length + m) * bytes ≤ 140737488355328) :
    ∃ v1 w1, (Builtin.append_ #[t, t] ty #[v, .slice A m c]).run P W = .ok v1 w1 ∧ d.R e w1 base ok v1 (xs ++ ys) ∧ W.grownBy w1 v.ownBlock ∧ (v1.ownBlock = v.ownBlock ∨ ∃ b, v1.ownBlock = some b ∧ W.heap.size ≤ b) := by
  obtain ⟨i0, hi, hzz⟩ := Option.map_eq_some_iff.1 hinfo
  simp only [Prod.mk.injEq] at hzz
  obtain ⟨hz0, hz1, hz2⟩ := hzz
  have hm : ys.length = m := HR.1
  have hlen : xs.length + m ≤ 140737488355328 := Nat.le_trans (Nat.le_mul_of_pos_right _ hb0) hl
  obtain ⟨hok, inner, hown, hr⟩ := HO
  rcases A with _ | ad
  · have h0 : m = 0 := by
      rcases Nat.eq_zero_or_pos m with h0 | h0
      · exact h0
      · obtain ⟨ad, h, _⟩ := HR.2.2 h0
        cases h
    subst h0
    obtain rfl : ys = [] := List.eq_nil_of_length_eq_zero hm
    refine ⟨v, W, ?_, by rw [List.append_nil]; exact ⟨hok, inner, hown, hr⟩, World.grownBy.refl W _, .inl rfl⟩
    rcases hown.2 with ⟨rfl, hn⟩ | ⟨g, cap, cur, rfl, _, _, hnc, _⟩
    · simp [Builtin.append_, run_underlying ht, sizeOf, typeInfo, hi, Builtin.lenOf, Builtin.firstCells]
    · simp [Builtin.append_, run_underlying ht, sizeOf, typeInfo, hi, Builtin.lenOf, Builtin.firstCells, hnc, storeCells]
  · obtain ⟨news, hnr, hnc⟩ := ReadsRow.inner_ HR
    have hnM : Reps (d.M W base okp) d.sz ys news := hnr.imp_ (fun p c hp => hKM p c hp)
    have hone : ∀ u ∈ news, u.oneCell' = true := by
      intro u hu
      obtain ⟨q, hq, rfl⟩ := List.mem_iff_getElem.1 hu
      have hql : q / d.sz < ys.length := by
        rw [Nat.div_lt_iff_lt_mul hs0]
        rw [← hnM.1]
        exact hq
      have hc := hnM.2 (q / d.sz) _ (List.getElem?_eq_getElem hql)
      refine d.K_one (d.K_of_M hc) _ ?_
      rw [List.mem_iff_getElem?]
      refine ⟨q % d.sz, ?_⟩
      rw [List.getElem?_take, if_pos (Nat.mod_lt _ hs0), List.getElem?_drop, Nat.mul_comm, Nat.div_add_mod, List.getElem?_eq_getElem hq]
    obtain ⟨v1, w1, hrun, h2, hg, _, hat⟩ := run_append_own_at (P := P) W base t ty e i0 z d.sz bytes ht hi hz0 hz1 hz2 hz hs0 v xs.length inner hown ad m c news (by rw [hnM.1, hm]) hnc hone (by simp only [maxLen]; omega) hl hbase
    have hat' : v1.ownBlock = v.ownBlock ∨ ∃ b, v1.ownBlock = some b ∧ W.heap.size ≤ b := by
      rcases hat with hat | hat
      · exact .inl hat
      · exact .inr ⟨_, hat, Nat.le_refl _⟩
    have hne : ∀ k, some k ≠ v.ownBlock → k < W.heap.size → some k ≠ v1.ownBlock := by
      intro k hk hlt
      rcases hat' with hat | ⟨b, hb, hle⟩
      · rw [hat]; exact hk
      · rw [hb]
        intro he
        injection he with he
        omega
    have step : ∀ {q : α} {c : List Value} {o : Nat → Prop}, d.M W base o q c → (∀ k, o k → ok k ∧ some k ≠ v.ownBlock) → d.M w1 base (fun k => ok k ∧ some k ≠ v1.ownBlock) q c := by
      intro q c o hq ho
      have h1 := d.M_move (w1 := w1) (fun k hk => hg.block k hk.2.2.1 (ho k hk.1).2) (d.M_bound hq)
      exact d.M_mono (fun k hk => ⟨(ho k hk.1).1, hne k (ho k hk.1).2 hk.2.2.1⟩) h1
    refine ⟨v1, w1, hrun, ⟨fun k hk => ?_, inner ++ news, by rw [List.length_append, hm]; exact h2, Kd.reps_append (hr.imp_ (fun _ _ hq => step hq (fun _ hk => hk))) (hnM.imp_ (fun _ _ hq => step hq hokp))⟩, hg, hat'⟩
    rcases hat' with hat | ⟨b, hb, hle⟩
    · exact hok k (hat ▸ hk)
    · rw [hb] at hk
      injection hk with hk
      exact hfresh k (by omega)
/-- An empty row, in new memory (the literal []T{}). -/
theorem R_empty {α : Type} (d : Kd α) (e : TypeId) (w : World) : d.R e (w.alloc (.cells #[] e)) w.heap.size (fun k => w.heap.size ≤ k) (.slice (some ⟨w.heap.size, 0, none⟩) 0 0) [] :=
  ⟨fun k hk => by simp [Value.ownBlock] at hk; omega, [], ⟨by simp, .inr ⟨w.heap.size, 0, #[], rfl, Nat.le_refl _, heap_alloc_new w _, Nat.le_refl _, Nat.zero_le _, by simp, by simp⟩⟩, Reps.none _ _⟩
end Go.Proofs.Ytepfhcimmbkilaa
/- Rows of elements of a fixed form: a whole block of them, read, owned, copied. No program in sight. -/
namespace Go.Proofs.Ytepfhcimmbkilaa
open Go.RowKit
open Go.Proofs.YtepfhcimmbkilaaW.PrintWords

/-- The cells of an element are a function of it. -/
structure Flat {α : Type} (d : Kd α) (enc : α → List Value) : Prop where
  len : ∀ x, (enc x).length = d.sz
  K : ∀ {w x c}, d.K w x c → c = enc x
  M : ∀ w base ok x, d.M w base ok x (enc x)
namespace Flat
variable {α : Type} {d : Kd α} {enc : α → List Value} {P : Program}
theorem flen (h : Flat d enc) (L : List α) : (L.flatMap enc).length = L.length * d.sz := by
  induction L with
  | nil => simp
  | cons a l ih => rw [List.flatMap_cons, List.length_append, ih, h.len, List.length_cons, Nat.add_mul, Nat.one_mul, Nat.add_comm]
theorem one (h : Flat d enc) (L : List α) : ∀ v ∈ L.flatMap enc, v.oneCell' = true := fun v hv => by
  obtain ⟨x, _, hx⟩ := List.mem_flatMap.1 hv
  exact d.K_one (d.K_of_M (h.M ⟨#[], fun _ _ => 0, 0, default, default⟩ 0 (fun _ => True) x)) v hx
theorem segs (h : Flat d enc) : ∀ (L : List α) (j : Nat) (p : α), L[j]? = some p → ((L.flatMap enc).drop (j * d.sz)).take d.sz = enc p
  | [], j, p, hj => by simp at hj
  | a :: l, 0, p, hj => by
    simp at hj
    subst hj
    rw [List.flatMap_cons, Nat.zero_mul, List.drop_zero, ← h.len a, List.take_left]
  | a :: l, j + 1, p, hj => by
    rw [List.flatMap_cons, Nat.add_mul, Nat.one_mul, Nat.add_comm, ← List.drop_drop, ← h.len a, List.drop_left, h.len a]
    exact segs h l j p (by simpa using hj)
theorem reps (h : Flat d enc) {R : α → List Value → Prop} (hR : ∀ x, R x (enc x)) (L : List α) : Reps R d.sz L (L.flatMap enc) := ⟨h.flen L, fun j p hj => by rw [h.segs L j p hj]; exact hR p⟩
theorem of_reps (h : Flat d enc) : ∀ (L : List α) (inner : List Value), Reps (fun p c => c = enc p) d.sz L inner → inner = L.flatMap enc
  | [], inner, hr => by have := hr.1; simp at this; rw [this]; rfl
  | a :: l, inner, hr => by
    have h0 := hr.2 0 a rfl
    simp only [Nat.zero_mul, List.drop_zero] at h0
    have h1 := Kd.reps_drop (m := 1) hr
    simp only [List.drop_succ_cons, List.drop_zero, Nat.one_mul] at h1
    rw [List.flatMap_cons, ← of_reps h l _ h1, ← h0, List.take_append_drop]
theorem blk_R (h : Flat d enc) {w : World} {g : Nat} {e : TypeId} {L : List α} (hB : Blk w g e (L.flatMap enc).toArray) {base : Nat} (hb : base ≤ g) {ok : Nat → Prop} (hok : ok g) (hl : L.length ≤ 9223372036854775807) :
    d.R e w base ok (.slice (some ⟨g, 0, none⟩) L.length L.length) L :=
  ⟨fun k hk => by simp [Value.ownBlock] at hk; rw [← hk]; exact hok, L.flatMap enc, ⟨h.flen L, .inr ⟨g, L.length, _, rfl, hb, hB, Nat.le_refl _, by simp [maxLen]; omega, by simp [h.flen L], by rw [← h.flen L]; exact List.take_length⟩⟩, h.reps (fun x => h.M _ _ _ x) L⟩
theorem blk_C (h : Flat d enc) {w : World} {g : Nat} {e : TypeId} {L : List α} (hB : Blk w g e (L.flatMap enc).toArray) (hl : L.length ≤ 9223372036854775807) : d.C w (some ⟨g, 0, none⟩) L.length L :=
  (Kd.R_reads' (h.blk_R hB (Nat.zero_le g) (ok := fun _ => True) trivial hl)).2.2
theorem src (h : Flat d enc) {w : World} {ad : Addr} {n : Nat} {L : List α} (hC : d.C w (some ad) n L) : ∀ j u, (L.flatMap enc)[j]? = some u → w.cell? (ad.add j) = some u := by
  obtain ⟨inner, hr, hc⟩ := ReadsRow.inner_ hC
  rw [← h.of_reps L inner (hr.imp_ (fun p c hp => h.K hp))]
  exact hc
/-- copy(v, ys), v a whole block of as many elements. -/
theorem copy_all (h : Flat d enc) {w : World} {g : Nat} {e : TypeId} {cur : Array Value} (hB : Blk w g e cur) {n : Nat} (hcur : cur.size = n * d.sz) {A : Option Addr} {c : Nat} {L : List α} (hC : d.C w A n L) (dT sT ty : TypeId) (hu : P.underlying dT = some (.slice e)) (hs : (P.info? e).map (·.size) = some d.sz) :
    ∃ w', (Builtin.copy_ #[dT, sT] ty #[.slice (some ⟨g, 0, none⟩) n n, .slice A n c]).run P w = .ok (.int .i64 (n : Int)) w' ∧ Blk w' g e (L.flatMap enc).toArray ∧ Fr (· = g) w w' := by
  have hl : L.length = n := hC.1
  have hfl := h.flen L
  rw [hl] at hfl
  rcases A with _ | ad
  · have h0 : n = 0 := by
      rcases Nat.eq_zero_or_pos n with h0 | h0
      · exact h0
      · obtain ⟨ad, he, _⟩ := hC.2.2 h0
        cases he
    subst h0
    have hL : L = [] := List.eq_nil_of_length_eq_zero hl
    subst hL
    have hcu : cur = #[] := Array.eq_empty_of_size_eq_zero (by rw [hcur, Nat.zero_mul])
    subst hcu
    refine ⟨w, ?_, by simpa using hB, Fr.refl _ _⟩
    cases hq : P.info? e with
    | none => simp [hq] at hs
    | some i => simp [Builtin.copy_, run_underlying hu, Builtin.lenOf, Builtin.firstCells, sizeOf, typeInfo, hq, storeCells, goInt]
  · have hrun := run_copy_any (P := P) w dT sT ty e g 0 n n ad n c d.sz cur e (L.flatMap enc) hu hs hB (by rw [hfl]; simp) (h.src hC) (by rw [hfl, hcur]; omega) (h.one L)
    rw [show Nat.min n n = n from Nat.min_self n] at hrun
    refine ⟨_, hrun, ?_, (Fr.refl (fun x => x = g) w).setRow (.inl rfl) _⟩
    have hr := setRow_heap w g cur (cur.toList.take 0 ++ L.flatMap enc ++ cur.toList.drop (0 + (L.flatMap enc).length)).toArray e (0, 0) hB
    have he : (cur.toList.take 0 ++ L.flatMap enc ++ cur.toList.drop (0 + (L.flatMap enc).length)).toArray = (L.flatMap enc).toArray := by
      rw [List.take_zero, List.nil_append, Nat.zero_add, hfl, List.drop_of_length_le (by rw [Array.length_toList, hcur]; exact Nat.le_refl _), List.append_nil]
    rw [he] at hr ⊢
    exact hr
end Flat
end Go.Proofs.Ytepfhcimmbkilaa
/- The builtins copy, append and clear, run at one operation. No program in sight. -/
namespace Go.Proofs.Ytepfhcimmbkilaa
open Go.RowKit
open Go.Proofs.YtepfhcimmbkilaaW.PrintWords

section
variable {P : Program} {ops : Array Oper} {rest : List Oper} {o : Oper} {a : Act} {W w1 : World} {K : Act → World → Prop} {Q : Exit → Act → World → Prop} {E : Prop}
theorem run_builtin {b : Builtin} {ag : Array Operand} {ts : Array TypeId} {v : Value} (ho : o.op = .call { callee := .builtin b, args := ag, argTypes := ts })
    (hr : ∀ cs, (builtin b ts o.type cs (ag.map a.eval)).run P W = .ok (.value v) w1) : (execOp a.eval o).run P W = .ok (.value v) w1 := by
  unfold execOp
  simp only [ho, resolve, Sem.run_bind, Sem.run_pure, Result.andThen_ok, invoke]
  exact hr _
theorem wpl_builtin (hgd : o.guard = none) {b : Builtin} {ag : Array Operand} {ts : Array TypeId} {v : Value} (ho : o.op = .call { callee := .builtin b, args := ag, argTypes := ts })
    (hr : ∀ cs, (builtin b ts o.type cs (ag.map a.eval)).run P W = .ok (.value v) w1) (h : wpList P ops Q rest (a.put o.dst v) w1) : wpList P ops Q (o :: rest) a W :=
  Kd.event_run hgd (run_builtin ho hr) h
theorem step_builtin (hw : Region.wanted o (yielded ops a.tmps) = true) {b : Builtin} {ag : Array Operand} {ts : Array TypeId} {v : Value} (ho : o.op = .call { callee := .builtin b, args := ag, argTypes := ts })
    (hr : ∀ cs, (builtin b ts o.type cs (ag.map a.eval)).run P W = .ok (.value v) w1) (h : K (a.put o.dst v) w1) : if Region.wanted o (yielded ops a.tmps) = true then Oper.wp P o a W K Q else E := by
  rw [if_pos hw]
  unfold Oper.wp
  rw [run_builtin ho hr]
  exact h
theorem step_builtin2 (hw : Region.wanted o (yielded ops a.tmps) = true) {b : Builtin} {x y : Operand} {ts : Array TypeId} {v vx vy : Value} (ho : o.op = .call { callee := .builtin b, args := #[x, y], argTypes := ts })
    (hx : a.eval x = vx) (hy : a.eval y = vy) (hr : ∀ cs, (builtin b ts o.type cs #[vx, vy]).run P W = .ok (.value v) w1) (h : K (a.put o.dst v) w1) : if Region.wanted o (yielded ops a.tmps) = true then Oper.wp P o a W K Q else E :=
  step_builtin hw ho (fun cs => by simp only [List.map_toArray, List.map_cons, List.map_nil, hx, hy]; exact hr cs) h
theorem wpl_builtin2 (hgd : o.guard = none) {b : Builtin} {x y : Operand} {ts : Array TypeId} {v vx vy : Value} (ho : o.op = .call { callee := .builtin b, args := #[x, y], argTypes := ts })
    (hx : a.eval x = vx) (hy : a.eval y = vy) (hr : ∀ cs, (builtin b ts o.type cs #[vx, vy]).run P W = .ok (.value v) w1) (h : wpList P ops Q rest (a.put o.dst v) w1) : wpList P ops Q (o :: rest) a W :=
  wpl_builtin hgd ho (fun cs => by simp only [List.map_toArray, List.map_cons, List.map_nil, hx, hy]; exact hr cs) h
theorem bi_clear {ts : Array TypeId} {t : TypeId} {ag : Array Value} {v : Value} (hr : (Builtin.clear_ ts t ag).run P W = .ok v w1) : ∀ cs, (builtin .clear ts t cs ag).run P W = .ok (.value v) w1 := by
  intro cs
  show (do pure (.value (← Builtin.clear_ ts t ag)) : Sem Next).run P W = _
  simp [hr]
theorem bi_copy {ts : Array TypeId} {t : TypeId} {ag : Array Value} {v : Value} (hr : (Builtin.copy_ ts t ag).run P W = .ok v w1) : ∀ cs, (builtin .copy ts t cs ag).run P W = .ok (.value v) w1 := by
  intro cs
  show (do pure (.value (← Builtin.copy_ ts t ag)) : Sem Next).run P W = _
  simp [hr]
theorem bi_append {ts : Array TypeId} {t : TypeId} {ag : Array Value} {v : Value} (hr : (Builtin.append_ ts t ag).run P W = .ok v w1) : ∀ cs, (builtin .append ts t cs ag).run P W = .ok (.value v) w1 := by
  intro cs
  show (do pure (.value (← Builtin.append_ ts t ag)) : Sem Next).run P W = _
  simp [hr]
end
end Go.Proofs.Ytepfhcimmbkilaa
/- Ids and commands: elements of a fixed form. -/
namespace Go.Proofs.Ytepfhcimmbkilaa
open Go.RowKit
open Go.Proofs.YtepfhcimmbkilaaW.PrintWords

abbrev idCells (a : Int × Int) : List Value := [.int .i64 a.1, .int .i64 a.2]
abbrev cmdCells (a : Cmd) : List Value := [.int .i64 a.1, .string a.2.1, .float .f64 a.2.2]
theorem idFlat : Flat idK idCells := ⟨fun _ => rfl, fun h => idK_K h, fun w b ok x => idK_M w b ok x⟩
theorem cmdFlat : Flat cmdK cmdCells := ⟨fun _ => rfl, fun h => cmdK_K h, fun w b ok x => cmdK_M w b ok x⟩
theorem info_cmd : (Try.prog.info? 37).map (fun i => (i.zero, i.size, i.bytes)) = some (some (.agg #[.int .i64 0, .string ByteArray.empty, .float .f64 0]), cmdK.sz, 32) := by kernel_rfl
/-- append(v, ys...) of flat elements: v an empty row of one's own. -/
theorem app_flat {P : Program} {α : Type} {d : Kd α} {enc : α → List Value} (hf : Flat d enc) {W : World} {base n c : Nat} {e : TypeId} {ok : Nat → Prop} {A0 A : Option Addr} {c0 : Nat} {xs : List α} (t ty : TypeId) (z : Value) (bytes : Nat)
    (ht : P.underlying t = some (.slice e)) (hinfo : (P.info? e).map (fun i => (i.zero, i.size, i.bytes)) = some (some z, d.sz, bytes)) (hz : z.cells.size = d.sz) (hs0 : 0 < d.sz) (hb0 : 0 < bytes)
    (hR : d.R e W base ok (.slice A0 0 c0) []) (hC : d.C W A n xs) (hfresh : ∀ k, W.heap.size ≤ k → ok k) (hbase : base ≤ W.heap.size) (hl : n * bytes ≤ 140737488355328) :
    ∃ A1 c1 w1, (Builtin.append_ #[t, t] ty #[.slice A0 0 c0, .slice A n c]).run P W = .ok (.slice A1 n c1) w1 ∧ d.R e w1 base ok (.slice A1 n c1) xs ∧ W.grownBy w1 (Value.slice A0 0 c0).ownBlock := by
  obtain ⟨v1, w1, hr, hR1, hg, _⟩ := R_rows_run (P := P) d base t ty e z bytes ht hinfo hz hs0 hb0 (.slice A0 0 c0) [] xs A n c ok (fun _ => False) hR hC (fun x cs h => by rw [hf.K h]; exact hf.M _ _ _ _) (fun _ h => h.elim) hfresh hbase (by simpa using hl)
  obtain ⟨A3, c3, rfl⟩ := Kd.R_slice hR1
  rw [List.nil_append] at hR1
  rw [List.nil_append] at hr
  rw [show xs.length = n from hC.1] at hr hR1
  exact ⟨A3, c3, w1, hr, hR1, hg⟩
end Go.Proofs.Ytepfhcimmbkilaa
/- Maps, raw, with their stamps: look-up, update, range, whatever the keys are. -/
namespace Go.Proofs.Ytepfhcimmbkilaa
open Go.RowKit

structure KEnc (P : Program) (kt : TypeId) (κ : Type) where
  enc : κ → Value
  ok : κ → Prop
  law : Maps.Keyed P kt
  key : ∀ {a : κ}, ok a → ∃ l, keyOf P kt (enc a) = some l
  inj : ∀ {a b : κ}, enc a = enc b → a = b

/-- The entries are just those of f; their stamps lie below the clock. -/
structure Ents {P : Program} {kt : TypeId} {κ β : Type} (K : KEnc P kt κ) (venc : β → Value) (f : κ → Option β) (es : List MapEntry) (clock : Nat) : Prop where
  all : ∀ e ∈ es, ∃ a b, K.ok a ∧ e.key = K.enc a ∧ e.val = venc b ∧ f a = some b
  dis : ∀ (i j : Nat) (e e' : MapEntry), es[i]? = some e → es[j]? = some e' → e.key = e'.key → i = j
  no : ∀ a, (∀ e ∈ es, e.key ≠ K.enc a) → f a = none
  low : ∀ e ∈ es, e.born < clock
  nod : (es.map (·.born)).Nodup

/-- Block m is a map in which just the keys of f stand, with f's values. -/
def MapIn {P : Program} {kt : TypeId} {κ β : Type} (K : KEnc P kt κ) (venc : β → Value) (w : World) (m : Nat) (f : κ → Option β) : Prop :=
  ∃ es clock, w.heap[m]? = some (.map es clock) ∧ Ents K venc f es.toList clock

/-- A loop over map m stands at iterator r; left: the keys that are still to come. -/
def MapIt {P : Program} {kt : TypeId} {κ β : Type} (K : KEnc P kt κ) (venc : β → Value) (w : World) (m r : Nat) (f : κ → Option β) (left : κ → Prop) (cnt : Nat) : Prop :=
  ∃ es clock since seen c0, w.heap[m]? = some (.map es clock) ∧ Ents K venc f es.toList clock ∧ w.heap[r]? = some (.mapIter (some m) since seen c0) ∧ (∀ x ∈ es.toList, x.born < since) ∧ since ≤ c0 ∧ since ≤ clock ∧
    (leftOf es seen).size = cnt ∧ (∀ e ∈ es.toList, ∀ a, e.key = K.enc a → (left a ↔ seen.contains e.born = false)) ∧ ∀ a, left a → (f a).isSome = true

section
variable {P : Program} {kt : TypeId} {κ β : Type} {K : KEnc P kt κ} {venc : β → Value} {w w' : World} {m r : Nat} {f : κ → Option β} {S : Nat → Prop} {left : κ → Prop} {cnt : Nat}

theorem Ents.keys {es : List MapEntry} {clock : Nat} (h : Ents K venc f es clock) : ∀ e ∈ es, ∃ l, keyOf P kt e.key = some l := fun e he => by
  obtain ⟨b, _, hb, hk, _⟩ := h.all e he
  rw [hk]; exact K.key hb
theorem Ents.mem {es : List MapEntry} {clock : Nat} (h : Ents K venc f es clock) {a : κ} (ha : (f a).isSome = true) : ∃ e ∈ es, e.key = K.enc a :=
  Classical.byContradiction fun hn => by
    rw [h.no a (fun e he hk => hn ⟨e, he, hk⟩)] at ha
    cases ha
theorem Ents.eq_of_key {es : List MapEntry} {clock : Nat} (h : Ents K venc f es clock) {e e' : MapEntry} (he : e ∈ es) (he' : e' ∈ es) (hk : e.key = e'.key) : e = e' := by
  obtain ⟨i, hi⟩ := List.getElem?_of_mem he
  obtain ⟨j, hj⟩ := List.getElem?_of_mem he'
  have := h.dis i j e e' hi hj hk
  subst this
  rw [hi] at hj
  exact Option.some.inj hj
theorem Ents.eq_of_born {es : List MapEntry} {clock : Nat} (h : Ents K venc f es clock) {e e' : MapEntry} (he : e ∈ es) (he' : e' ∈ es) (hk : e.born = e'.born) : e = e' := born_inj h.nod he he' hk

namespace MapIn
theorem lt (h : MapIn K venc w m f) : m < w.heap.size := by
  obtain ⟨es, clock, hb, _⟩ := h
  exact (Array.getElem?_eq_some_iff.1 hb).1
theorem block (h : MapIn K venc w m f) (hb : w'.heap[m]? = w.heap[m]?) : MapIn K venc w' m f := by
  obtain ⟨es, clock, h0, r⟩ := h
  exact ⟨es, clock, hb.trans h0, r⟩
theorem fr (h : MapIn K venc w m f) (hF : Fr S w w') (hn : ¬ S m) : MapIn K venc w' m f := h.block (hF.block m h.lt hn)
theorem drew (h : MapIn K venc w m f) : MapIn K venc w.drew m f := h
theorem alloc (h : MapIn K venc w m f) (o : Obj) : MapIn K venc (w.alloc o) m f := h.block (Below.heap_alloc w o m h.lt)
theorem far (h : MapIn K venc w m f) {p : Addr} (hp : m ≠ p.block) (u : Value) : MapIn K venc (w.setCell p u) m f := h.block (Below.heap_setCell w p u m hp)
theorem ne_blk (h : MapIn K venc w m f) {g : Nat} {t : TypeId} {cs : Array Value} (hB : Blk w g t cs) : g ≠ m := by
  rintro rfl
  obtain ⟨es, clock, h0, _⟩ := h
  unfold Blk at hB
  rw [h0] at hB
  injection hB with hB
  cases hB
theorem at_ (h : MapIn K venc w m f) : ∃ es clock, w.heap[m]? = some (.map es clock) := by
  obtain ⟨es, clock, h, _⟩ := h
  exact ⟨es, clock, h⟩
theorem congr {f' : κ → Option β} (h : MapIn K venc w m f) (hf : ∀ a, f a = f' a) : MapIn K venc w m f' := by
  have : f = f' := funext hf
  rwa [← this]
theorem new (K : KEnc P kt κ) (venc : β → Value) (w : World) : MapIn K venc (w.alloc (.map #[] 0)) w.heap.size (fun _ => none) :=
  ⟨#[], 0, heap_alloc_new w _, ⟨by simp, by simp, fun _ _ => rfl, by simp, by simp⟩⟩
theorem run_lookup (h : MapIn K venc w m f) {t et : TypeId} (ht : P.underlying t = some (.map kt et)) {z : Value} (hz : (zeroValue et).run P w = .ok z w) {a : κ} (ha : K.ok a) (ok : Bool) :
    (Instr.lookup t (.map (some m)) (K.enc a) ok).run P w = .ok (if ok then .tuple #[(f a).elim z venc, .bool (f a).isSome] else (f a).elim z venc) w := by
  obtain ⟨es, clock, hb, hE⟩ := h
  obtain ⟨l, hl⟩ := K.key ha
  have hck := K.law.check w es.isEmpty hl
  rcases K.law.find w hl es.toList hE.keys with ⟨h1, h2⟩ | ⟨j, e, h1, h2, h3⟩
  · have hf := hE.no a h2
    cases ok <;> simp [Instr.lookup, run_underlying ht, MapKept.run_getObj_map hb, hck, h1, hz, hf]
  · obtain ⟨b, v, _, hk, hv, hf⟩ := hE.all e (List.mem_of_getElem? h2)
    have hba : b = a := K.inj (hk.symm.trans h3)
    subst hba
    cases ok <;> simp [Instr.lookup, run_underlying ht, MapKept.run_getObj_map hb, hck, h1, hv, hf]
theorem lookup (h : MapIn K venc w m f) {t et : TypeId} (ht : P.underlying t = some (.map kt et)) {z : Value} (hz : (zeroValue et).run P w = .ok z w) {a : κ} (ha : K.ok a) :
    (Instr.lookup t (.map (some m)) (K.enc a) false).run P w = .ok ((f a).elim z venc) w := h.run_lookup ht hz ha false
/-- m[a] = b. -/
theorem update [DecidableEq κ] (h : MapIn K venc w m f) {t et : TypeId} (ht : P.underlying t = some (.map kt et)) {a : κ} (ha : K.ok a) (b : β) :
    ∃ w', (Instr.mapUpdate t (.map (some m)) (K.enc a) (venc b)).run P w = .ok () w' ∧ MapIn K venc w' m (fun x => if x = a then some b else f x) ∧ Fr (· = m) w w' ∧ w'.heap.size = w.heap.size := by
  obtain ⟨es, clock, hb, hE⟩ := h
  have hall := hE.all
  have hd := hE.dis
  have hno := hE.no
  obtain ⟨l, hl⟩ := K.key ha
  have hck := K.law.check w false hl
  have frm : ∀ o, Fr (· = m) w { w with heap := w.heap.setIfInBounds m o } := fun o => ⟨rfl, rfl, rfl, by simp, fun k _ hn => (MapKept.heap_set hb).2 k hn⟩
  rcases K.law.find w hl es.toList hE.keys with ⟨h1, h2⟩ | ⟨j, e, h1, h2, h3⟩
  · refine ⟨{ w with heap := w.heap.setIfInBounds m (.map (es.push { key := K.enc a, val := venc b, born := clock }) (clock + 1)) }, ?_, ⟨_, _, (MapKept.heap_set hb).1, ⟨?_, ?_, ?_, ?_, ?_⟩⟩, frm _, by simp⟩
    · simp [Instr.mapUpdate, run_underlying ht, MapKept.run_getObj_map hb, hck, h1, MapKept.run_setObj_map _ hb]
    · intro e he
      simp only [Array.toList_push, List.mem_append, List.mem_singleton] at he
      rcases he with he | rfl
      · obtain ⟨a', b', k1, k2, k3, k4⟩ := hall e he
        refine ⟨a', b', k1, k2, k3, ?_⟩
        have : a' ≠ a := fun x => h2 e he (by rw [k2, x])
        simp [this, k4]
      · exact ⟨a, b, ha, rfl, rfl, by simp⟩
    · intro i j e e' hi hj hk
      simp only [Array.toList_push, List.getElem?_append] at hi hj
      split at hi <;> split at hj
      · exact hd i j e e' hi hj hk
      · have hj' : e' = { key := K.enc a, val := venc b, born := clock } := by
          have := List.mem_of_getElem? hj
          simpa using this
        exact absurd (hk.trans (by rw [hj'])) (h2 e (List.mem_of_getElem? hi))
      · have hi' : e = { key := K.enc a, val := venc b, born := clock } := by
          have := List.mem_of_getElem? hi
          simpa using this
        exact absurd (hk.symm.trans (by rw [hi'])) (h2 e' (List.mem_of_getElem? hj))
      · have hi2 := (List.getElem?_eq_some_iff.1 hi).1
        have hj2 := (List.getElem?_eq_some_iff.1 hj).1
        simp at hi2 hj2
        simp only [Array.length_toList] at *
        omega
    · intro x hx
      simp only [Array.toList_push, List.mem_append, List.mem_singleton] at hx
      have hne : x ≠ a := fun e => hx _ (.inr rfl) (by rw [e])
      simp [hne, hno x (fun e he => hx e (.inl he))]
    · intro x hx
      simp only [Array.toList_push, List.mem_append, List.mem_singleton] at hx
      rcases hx with hx | rfl
      · have := hE.low x hx
        omega
      · exact Nat.lt_succ_self _
    · simp only [Array.toList_push, List.map_append, List.map_cons, List.map_nil]
      rw [List.nodup_append]
      refine ⟨hE.nod, by simp, ?_⟩
      intro x hx y hy
      simp only [List.mem_singleton] at hy
      obtain ⟨z, hz, rfl⟩ := List.mem_map.1 hx
      have := hE.low z hz
      omega
  · obtain ⟨a0, v0, k1, k2, k3, k4⟩ := hall e (List.mem_of_getElem? h2)
    have hst := K.law.stays w hl
    have hej : es[j]? = some e := by simpa using h2
    have hget : ∀ i x, (es.modify j fun e => { e with key := K.enc a, val := venc b }).toList[i]? = some x → (i = j ∧ x = { e with key := K.enc a, val := venc b }) ∨ (i ≠ j ∧ es.toList[i]? = some x) := by
      intro i x hx
      simp only [Array.toList_modify, List.getElem?_modify] at hx
      by_cases hij : j = i
      · subst hij
        simp [h2] at hx
        exact .inl ⟨rfl, hx.symm⟩
      · simp [hij] at hx
        exact .inr ⟨fun h => hij h.symm, by simpa using hx⟩
    have hborn : (es.modify j fun e => { e with key := K.enc a, val := venc b }).toList.map (·.born) = es.toList.map (·.born) := by
      apply List.ext_getElem?
      intro i
      simp only [List.getElem?_map, Array.toList_modify, List.getElem?_modify]
      split
      · cases es.toList[i]? <;> rfl
      · simp
    refine ⟨{ w with heap := w.heap.setIfInBounds m (.map (es.modify j fun e => { e with key := K.enc a, val := venc b }) clock) }, ?_, ⟨_, _, (MapKept.heap_set hb).1, ⟨?_, ?_, ?_, ?_, ?_⟩⟩, frm _, by simp⟩
    · simp [Instr.mapUpdate, run_underlying ht, MapKept.run_getObj_map hb, hck, h1, hej, h3, hst, MapKept.run_setObj_map _ hb]
    · intro x hx
      obtain ⟨i, hi⟩ := List.getElem?_of_mem hx
      rcases hget i x hi with ⟨_, rfl⟩ | ⟨hij, hi'⟩
      · exact ⟨a, b, ha, rfl, rfl, by simp⟩
      · obtain ⟨a', b', l1, l2, l3, l4⟩ := hall x (List.mem_of_getElem? hi')
        refine ⟨a', b', l1, l2, l3, ?_⟩
        have : a' ≠ a := fun y => hij (hd i j x e hi' h2 (by rw [l2, y, h3]))
        simp [this, l4]
    · intro i i' x x' hi hi' hk
      rcases hget i x hi with ⟨rfl, rfl⟩ | ⟨hij, hi2⟩ <;> rcases hget i' x' hi' with ⟨rfl, rfl⟩ | ⟨hij', hi2'⟩
      · rfl
      · exact absurd (hd i' _ x' e hi2' h2 (hk.symm.trans h3.symm)) hij'
      · exact absurd (hd i _ x e hi2 h2 (hk.trans h3.symm)) hij
      · exact hd i i' x x' hi2 hi2' hk
    · intro x hx
      have hmem : ({ e with key := K.enc a, val := venc b } : MapEntry) ∈ (es.modify j fun e => { e with key := K.enc a, val := venc b }).toList := by
        apply List.mem_of_getElem? (i := j)
        simp [Array.toList_modify, List.getElem?_modify, h2]
      have hne : x ≠ a := fun y => hx _ hmem (by rw [y])
      simp only [if_neg hne]
      refine hno x (fun y hy => ?_)
      obtain ⟨i, hi⟩ := List.getElem?_of_mem hy
      by_cases hij : i = j
      · subst hij
        rw [h2] at hi
        cases hi
        rw [h3]
        exact fun z => hne (K.inj z.symm)
      · refine hx y (List.mem_of_getElem? (i := i) ?_)
        have hji : ¬ j = i := fun h => hij h.symm
        simp [Array.toList_modify, List.getElem?_modify, hji, hi]
    · intro x hx
      obtain ⟨i, hi⟩ := List.getElem?_of_mem hx
      rcases hget i x hi with ⟨_, rfl⟩ | ⟨hij, hi'⟩
      · exact hE.low e (List.mem_of_getElem? h2)
      · exact hE.low x (List.mem_of_getElem? hi')
    · rw [hborn]
      exact hE.nod
/-- range m. -/
theorem range (h : MapIn K venc w m f) {t et : TypeId} (ht : P.underlying t = some (.map kt et)) :
    ∃ w' cnt, (Instr.range t (.map (some m))).run P w = .ok (.pointer (some ⟨w.heap.size, 0, none⟩)) w' ∧ MapIt K venc w' m w.heap.size f (fun a => (f a).isSome = true) cnt ∧ Fr (fun _ => False) w w' ∧ w'.heap.size = w.heap.size + 1 := by
  have hlt := h.lt
  obtain ⟨es, clock, hb, hE⟩ := h
  refine ⟨_, _, run_range_map w t kt et m es clock ht hb, ⟨es, clock, clock, #[], clock, ((MapKept.heap_alloc w _).2 m hlt).trans hb, hE, (MapKept.heap_alloc w _).1, hE.low, Nat.le_refl _, Nat.le_refl _, rfl, ?_, fun a ha => ha⟩, (Fr.refl _ w).alloc _, by simp⟩
  intro e he a hk
  obtain ⟨a', b, _, k2, _, k4⟩ := hE.all e he
  have : a' = a := K.inj (k2.symm.trans hk)
  subst this
  simp [k4]
end MapIn

namespace MapIt
theorem isin (h : MapIt K venc w m r f left cnt) : MapIn K venc w m f := by
  obtain ⟨es, clock, since, seen, c0, h1, h2, _⟩ := h
  exact ⟨es, clock, h1, h2⟩
theorem lt (h : MapIt K venc w m r f left cnt) : r < w.heap.size := by
  obtain ⟨es, clock, since, seen, c0, h1, h2, h3, _⟩ := h
  exact (Array.getElem?_eq_some_iff.1 h3).1
theorem ne (h : MapIt K venc w m r f left cnt) : r ≠ m := by
  obtain ⟨es, clock, since, seen, c0, h1, h2, h3, _⟩ := h
  rintro rfl
  rw [h1] at h3
  cases h3
theorem ne_blk (h : MapIt K venc w m r f left cnt) {g : Nat} {t : TypeId} {cs : Array Value} (hB : Blk w g t cs) : g ≠ r := by
  obtain ⟨es, clock, since, seen, c0, h1, h2, h3, _⟩ := h
  rintro rfl
  unfold Blk at hB
  rw [h3] at hB
  cases hB
theorem fr (h : MapIt K venc w m r f left cnt) (hF : Fr S w w') (hm : ¬ S m) (hr : ¬ S r) : MapIt K venc w' m r f left cnt := by
  have l1 := h.isin.lt
  have l2 := h.lt
  obtain ⟨es, clock, since, seen, c0, h1, h2, h3, rest⟩ := h
  exact ⟨es, clock, since, seen, c0, (hF.block m l1 hm).trans h1, h2, (hF.block r l2 hr).trans h3, rest⟩
theorem left_eq (h : MapIt K venc w m r f left cnt) : w.rangeLeft m r = cnt := by
  obtain ⟨es, clock, since, seen, c0, h1, h2, h3, _, _, _, hc, _⟩ := h
  simp only [World.rangeLeft, h1, h3]
  exact hc
theorem congr {left' : κ → Prop} (h : MapIt K venc w m r f left cnt) (hl : ∀ a, left a ↔ left' a) : MapIt K venc w m r f left' cnt := by
  have : left = left' := funext fun a => propext (hl a)
  rwa [← this]
/-- The step. -/
theorem next (h : MapIt K venc w m r f left cnt) (ty : TypeId) :
    ((∀ a, ¬ left a) ∧ (Instr.next (.pointer (some ⟨r, 0, none⟩)) false ty).run P w = .ok (.tuple #[.bool false]) w) ∨
    ∃ a b w' cnt', K.ok a ∧ left a ∧ f a = some b ∧ (Instr.next (.pointer (some ⟨r, 0, none⟩)) false ty).run P w = .ok (.tuple #[.bool true, K.enc a, venc b]) w' ∧
      MapIt K venc w' m r f (fun x => left x ∧ x ≠ a) cnt' ∧ cnt' < cnt ∧ Fr (· = r) w w' ∧ w'.heap.size = w.heap.size ∧ (Instr.entry (.pointer (some ⟨r, 0, none⟩))).run P w' = .ok (.tuple #[K.enc a, venc b]) w' := by
  have hne := h.ne
  obtain ⟨es, clock, since, seen, c0, hb, hE, hr, hold, hsc, hsk, rfl, hl1, hl2⟩ := h
  rcases run_next_at (P := P) w ty r m since c0 seen es clock hr hb hold hsc with ⟨h0, hrun⟩ | ⟨e, he, w1, hal, hrun⟩
  · refine Or.inl ⟨fun a ha => ?_, hrun⟩
    obtain ⟨e, hem, hk⟩ := hE.mem (hl2 a ha)
    have h1 := (hl1 e hem a hk).1 ha
    rw [all_seen es seen h0 e hem] at h1
    cases h1
  · obtain ⟨hem, hes⟩ := mem_left he
    obtain ⟨a, b, ka, kk, kv, kf⟩ := hE.all e hem
    have hr1 : w1.heap[r]? = some (.mapIter (some m) since seen c0) := by rcases hal with rfl | rfl <;> exact hr
    have hb1 : w1.heap[m]? = some (.map es clock) := by rcases hal with rfl | rfl <;> exact hb
    have hset := MapKept.heap_set (o' := .mapIter (some m) since (seen.push e.born) clock) hr1
    have hb' : (ChangeMaps.setBlock w1 r (.mapIter (some m) since (seen.push e.born) clock)).heap[m]? = some (.map es clock) := (hset.2 m (fun e1 => hne e1.symm)).trans hb1
    have hen := run_entry_at (P := P) _ r m since seen es clock e hset.1 hb' hem hE.nod
    rw [kk, kv] at hrun hen
    refine Or.inr ⟨a, b, _, _, ka, (hl1 e hem a kk).2 hes, kf, hrun, ⟨es, clock, since, seen.push e.born, clock, hb', hE, hset.1, hold, hsk, hsk, rfl, ?_, fun x hx => hl2 x hx.1⟩, left_shrinks es seen e he, ?_, ?_, hen⟩
    · intro x hx a' hk
      show (left a' ∧ a' ≠ a) ↔ _
      rw [hl1 x hx a' hk, contains_push]
      constructor
      · rintro ⟨h1, h2⟩
        have : x.born ≠ e.born := fun hbe => by
          have hxe := hE.eq_of_born hx hem hbe
          subst hxe
          exact h2 (K.inj (hk.symm.trans kk))
        rw [h1]
        simpa using this
      · intro h1
        rw [Bool.or_eq_false_iff] at h1
        refine ⟨h1.1, fun hae => ?_⟩
        subst hae
        have hxe := hE.eq_of_key hx hem (hk.trans kk.symm)
        subst hxe
        simp at h1
    · rcases hal with rfl | rfl <;> exact ⟨rfl, rfl, rfl, by simp [ChangeMaps.setBlock], fun i _ hi => hset.2 i hi⟩
    · rcases hal with rfl | rfl <;> simp [ChangeMaps.setBlock]
end MapIt
end
end Go.Proofs.Ytepfhcimmbkilaa
/- Vaults: what one holds, as a history of commands. -/
namespace Go.Proofs.Ytepfhcimmbkilaa
open Go.RowKit
open Go.Proofs.YtepfhcimmbkilaaW.PrintWords

def strE : KEnc Try.prog 9 ByteArray where
  enc := .string
  ok := fun s => s.size ≤ maxLen
  law := Maps.string_keyed Try.underlying9
  key := fun {a} h => by
    simp only [keyOf, Try.underlying9, mapKey, h, if_true]
    exact ⟨_, rfl⟩
  inj := fun h => by injection h
/-- Whose a command is, its place, itself. -/
abbrev HE := (Int × Int) × Int × Cmd
noncomputable def cellStep (key : ByteArray) (c : CellD) (e : HE) : CellD := bif cdec (e.2.2.2.1 = key) then (doC c e.2.2).1 else c
noncomputable def cellOf (H : List HE) (key : ByteArray) : CellD := H.foldl (cellStep key) (false, 0)
def wrote (key : ByteArray) (e : HE) : Prop := e.2.2.2.1 = key ∧ cmdOk e.2.2 ∧ e.2.2.1 ≠ 1
noncomputable def logOf (H : List HE) (key : ByteArray) : List ((Int × Int) × Int) := (H.filter (fun e => cdec (wrote key e))).map (fun e => (e.1, e.2.1))
theorem cellOf_snoc (H : List HE) (e : HE) (key : ByteArray) : cellOf (H ++ [e]) key = cellStep key (cellOf H key) e := by unfold cellOf; rw [List.foldl_append]; rfl
theorem logOf_yes {H : List HE} {e : HE} {key : ByteArray} (h : wrote key e) : logOf (H ++ [e]) key = logOf H key ++ [(e.1, e.2.1)] := by
  unfold logOf
  rw [List.filter_append, List.map_append, List.filter_cons_of_pos (by rw [cdec_true h])]
  rfl
theorem logOf_no {H : List HE} {e : HE} {key : ByteArray} (h : ¬ wrote key e) : logOf (H ++ [e]) key = logOf H key := by
  unfold logOf
  rw [List.filter_append, List.map_append, List.filter_cons_of_neg (by rw [cdec_false h]; decide)]
  simp
def CellC (c : CellD) : Prop := CellOk c ∧ absC c = c
theorem doC_canon {c : CellD} {x : Cmd} (hc : CellC c) (hx : CmdGood x) : CellC (doC c x).1 ∧ CellC (doC c x).2 := by
  have h0 : CellC (false, 0) := ⟨cell0_ok, rfl⟩
  by_cases hq : cmdOk x
  · rcases hq.1 with hk | hk | hk | hk
    · rw [doC_get hq hk]; exact ⟨hc, hc⟩
    · rw [doC_put hq hk]; exact ⟨⟨canon_lt hx.2, by show (true, canonP (canonP _)) = _; rw [canon_canon]⟩, hc⟩
    · rw [doC_del hq hk]; exact ⟨h0, hc⟩
    · rw [doC_add hq hk]; exact ⟨⟨sumC_lt _ _, by show (true, canonP _) = _; rw [canon_sumC]⟩, ⟨sumC_lt _ _, by show (true, canonP _) = _; rw [canon_sumC]⟩⟩
  · rw [doC_bad hq]; exact ⟨hc, h0⟩
def HGood (H : List HE) : Prop := ∀ e ∈ H, CmdGood e.2.2
theorem foldl_canon (key : ByteArray) : ∀ (H : List HE) (c : CellD), HGood H → CellC c → CellC (H.foldl (cellStep key) c)
  | [], c, _, hc => hc
  | e :: H, c, hH, hc => by
    refine foldl_canon key H _ (fun x hx => hH x (List.mem_cons_of_mem _ hx)) ?_
    unfold cellStep
    by_cases h : e.2.2.2.1 = key
    · rw [cdec_true h]; exact (doC_canon hc (hH e List.mem_cons_self)).1
    · rw [cdec_false h]; exact hc
theorem cellOf_canon {H : List HE} (hH : HGood H) (key : ByteArray) : CellC (cellOf H key) := foldl_canon key H _ hH ⟨cell0_ok, rfl⟩
/-- A batch's commands, with whose they are, and their places. -/
def tagN (id : Int × Int) (L : List Cmd) (k : Nat) : List HE := (List.range k).map fun (i : Nat) => (id, (i : Int), cmx L i)
theorem tagN_succ (id : Int × Int) (L : List Cmd) (k : Nat) : tagN id L (k + 1) = tagN id L k ++ [(id, (k : Int), cmx L k)] := by
  unfold tagN; rw [List.range_succ, List.map_append]; rfl
theorem tagN_good {id : Int × Int} {L : List Cmd} {k : Nat} (hk : k ≤ L.length) (hL : ∀ x ∈ L, CmdGood x) : HGood (tagN id L k) := fun e he => by
  obtain ⟨i, hi, rfl⟩ := List.mem_map.1 he
  exact hL _ (cmx_mem (Nat.lt_of_lt_of_le (List.mem_range.1 hi) hk))
theorem HGood.append {H H' : List HE} (h : HGood H) (h' : HGood H') : HGood (H ++ H') := fun e he => (List.mem_append.1 he).elim (h e) (h' e)
/-- What a batch's commands tell behind a history. -/
noncomputable def toldN (H : List HE) (id : Int × Int) (L : List Cmd) (k : Nat) : List ((Int × Int) × Int × CellD) :=
  (List.range k).map fun (i : Nat) => (id, (i : Int), (doC (cellOf (H ++ tagN id L i) (cmx L i).2.1) (cmx L i)).2)
theorem toldN_succ (H : List HE) (id : Int × Int) (L : List Cmd) (k : Nat) : toldN H id L (k + 1) = toldN H id L k ++ [(id, (k : Int), (doC (cellOf (H ++ tagN id L k) (cmx L k).2.1) (cmx L k)).2)] := by
  unfold toldN; rw [List.range_succ, List.map_append]; rfl
theorem toldN_len (H : List HE) (id : Int × Int) (L : List Cmd) (k : Nat) : (toldN H id L k).length = k := by unfold toldN; rw [List.length_map, List.length_range]

abbrev Wr := (Int × Int) × Int
def wrK : Kd Wr := Kd.pair idK (Kd.int .i64)
abbrev wrCells (a : Wr) : List Value := [.int .i64 a.1.1, .int .i64 a.1.2, .int .i64 a.2]
theorem wrK_K {w : World} {a : Wr} {c : List Value} (h : wrK.K w a c) : c = wrCells a := by
  obtain ⟨c0, c1, rfl, h0, h1⟩ := h
  rw [idK_K h0, show c1 = [.int .i64 a.2] from h1]
  rfl
theorem wrK_M (w : World) (base : Nat) (ok : Nat → Prop) (a : Wr) : wrK.M w base ok a (wrCells a) := ⟨[.int .i64 a.1.1, .int .i64 a.1.2], [.int .i64 a.2], rfl, idK_M _ _ _ _, rfl⟩
theorem wrFlat : Flat wrK wrCells := ⟨fun _ => rfl, fun h => wrK_K h, fun w b ok x => wrK_M w b ok x⟩
abbrev Rs := (Int × Int) × Int × CellD
def cellK : Kd CellD := Kd.pair Kd.bool kfloat
def resK : Kd Rs := Kd.pair idK (Kd.pair (Kd.int .i64) cellK)
abbrev resCells (a : Rs) : List Value := [.int .i64 a.1.1, .int .i64 a.1.2, .int .i64 a.2.1, .bool a.2.2.1, .float .f64 a.2.2.2]
theorem resK_K {w : World} {a : Rs} {c : List Value} (h : resK.K w a c) : c = resCells a := by
  obtain ⟨c0, c1, rfl, h0, c2, c3, rfl, h1, c4, c5, rfl, h2, h3⟩ := h
  rw [idK_K h0, show c2 = [.int .i64 a.2.1] from h1, show c4 = [.bool a.2.2.1] from h2, show c5 = [.float .f64 a.2.2.2] from h3]
  rfl
theorem resK_M (w : World) (base : Nat) (ok : Nat → Prop) (a : Rs) : resK.M w base ok a (resCells a) :=
  ⟨[.int .i64 a.1.1, .int .i64 a.1.2], [.int .i64 a.2.1, .bool a.2.2.1, .float .f64 a.2.2.2], rfl, idK_M _ _ _ _, [.int .i64 a.2.1], [.bool a.2.2.1, .float .f64 a.2.2.2], rfl, rfl, [.bool a.2.2.1], [.float .f64 a.2.2.2], rfl, rfl, rfl⟩
theorem resFlat : Flat resK resCells := ⟨fun _ => rfl, fun h => resK_K h, fun w b ok x => resK_M w b ok x⟩
theorem info_wr : (Try.prog.info? 67).map (fun i => (i.zero, i.size, i.bytes)) = some (some (.agg #[.int .i64 0, .int .i64 0, .int .i64 0]), wrK.sz, 24) := by kernel_rfl
theorem info_res : (Try.prog.info? 55).map (fun i => (i.zero, i.size, i.bytes)) = some (some (.agg #[.int .i64 0, .int .i64 0, .int .i64 0, .bool false, .float .f64 0]), resK.sz, 40) := by kernel_rfl
abbrev Hdr := Option Addr × Nat × Nat
abbrev hdrV (h : Hdr) : Value := .slice h.1 h.2.1 h.2.2

/-- What elements of a fixed form a row has hangs on its own block alone. -/
theorem Flat.C_move {α : Type} {d : Kd α} {enc : α → List Value} (hf : Flat d enc) {w w' : World} {A : Option Addr} {n : Nat} {L : List α} (h : d.C w A n L) (hb : 0 < n → ∀ ad, A = some ad → w'.heap[ad.block]? = w.heap[ad.block]?) : d.C w' A n L := by
  refine ⟨h.1, h.2.1, fun hp => ?_⟩
  obtain ⟨ad, hA, hc⟩ := h.2.2 hp
  refine ⟨ad, hA, ?_⟩
  intro j p hj
  obtain ⟨c, hs, hr, hcell⟩ := hc j p hj
  rw [hf.K hr] at hcell
  exact ⟨enc p, hf.len p, d.K_of_M (hf.M w' 0 (fun _ => True) p), fun i u hu => (World.cell?_of_block (by rw [add_block]; exact hb hp ad hA)).trans (hcell i u hu)⟩
/-- The logs' slices are those of G; each has its own block. -/
structure LogsAt (w : World) (S : Nat → Prop) (Lh : ByteArray → Option Hdr) (G : ByteArray → List Wr) : Prop where
  row : ∀ k h, Lh k = some h → wrK.R 67 w 0 S (hdrV h) (G k)
  none_ : ∀ k, Lh k = none → G k = []
  apart : ∀ k k' h h' b, Lh k = some h → Lh k' = some h' → (hdrV h).ownBlock = some b → (hdrV h').ownBlock = some b → k = k'
structure VaultAt (w : World) (S : Nat → Prop) (g mc ml : Nat) (F : ByteArray → Option CellD) (Lh : ByteArray → Option Hdr) (H : List HE) (n : Nat) : Prop where
  blk : Blk w g 62 #[.map (some mc), .map (some ml), .int .i64 n]
  own : S g ∧ S mc ∧ S ml
  ne : mc ≠ ml
  cells : MapIn strE cellV w mc F
  cell : ∀ k, (F k).getD (false, 0) = cellOf H k
  logs : MapIn strE hdrV w ml Lh
  log : LogsAt w S Lh (logOf H)
  lt : ∀ k, S k → k < w.heap.size
/-- At g lies a vault behind the history H; its blocks are of S. -/
def VaultRep (w : World) (S : Nat → Prop) (g : Nat) (H : List HE) (n : Nat) : Prop := ∃ mc ml F Lh, VaultAt w S g mc ml F Lh H n
theorem LogsAt.fr {w w' : World} {S T : Nat → Prop} {Lh : ByteArray → Option Hdr} {G : ByteArray → List Wr} (h : LogsAt w S Lh G) (hF : Fr T w w') (hd : ∀ b, S b → ¬ T b) : LogsAt w' S Lh G :=
  ⟨fun k hd' hk => Kd.R_step (h.row k hd' hk) (fun b hb hl => hF.block b hl (hd b hb)), h.none_, h.apart⟩
theorem VaultAt.fr {w w' : World} {S T : Nat → Prop} {g mc ml : Nat} {F : ByteArray → Option CellD} {Lh : ByteArray → Option Hdr} {H : List HE} {n : Nat} (h : VaultAt w S g mc ml F Lh H n) (hF : Fr T w w') (hd : ∀ b, S b → ¬ T b) : VaultAt w' S g mc ml F Lh H n :=
  ⟨h.blk.fr hF (hd _ h.own.1), h.own, h.ne, h.cells.fr hF (hd _ h.own.2.1), h.cell, h.logs.fr hF (hd _ h.own.2.2), h.log.fr hF hd, fun k hk => Nat.lt_of_lt_of_le (h.lt k hk) hF.size⟩
theorem VaultRep.fr {w w' : World} {S T : Nat → Prop} {g : Nat} {H : List HE} {n : Nat} (h : VaultRep w S g H n) (hF : Fr T w w') (hd : ∀ b, S b → ¬ T b) : VaultRep w' S g H n := by
  obtain ⟨mc, ml, F, Lh, h⟩ := h
  exact ⟨mc, ml, F, Lh, h.fr hF hd⟩
theorem VaultRep.lt {w : World} {S : Nat → Prop} {g : Nat} {H : List HE} {n : Nat} (h : VaultRep w S g H n) : ∀ k, S k → k < w.heap.size := by
  obtain ⟨mc, ml, F, Lh, h⟩ := h
  exact h.lt
theorem vault_new (w : World) : Calls Try.prog 6 #[] w fun r w' => ∃ g S, r = .returned (.pointer (some ⟨g, 0, none⟩)) ∧ VaultRep w' S g [] 0 ∧ (∀ k, S k → w.heap.size ≤ k) ∧ Fr (fun _ => False) w w' := by
  have h1 := ((MapIn.new strE cellV w).alloc (.map #[] 0)).alloc (.cells #[.map (some w.heap.size), .map (some (w.heap.size + 1)), .int .i64 0] 62)
  have h2 := (MapIn.new strE hdrV (w.alloc (.map #[] 0))).alloc (.cells #[.map (some w.heap.size), .map (some (w.heap.size + 1)), .int .i64 0] 62)
  have h3 := Blk.new ((w.alloc (.map #[] 0)).alloc (.map #[] 0)) 62 #[.map (some w.heap.size), .map (some (w.heap.size + 1)), .int .i64 0]
  have hF := (((Fr.refl (fun _ => False) w).alloc (.map #[] 0)).alloc (.map #[] 0)).alloc (.cells #[.map (some w.heap.size), .map (some (w.heap.size + 1)), .int .i64 0] 62)
  rw [World.size_alloc] at h2
  rw [World.size_alloc, World.size_alloc] at h3
  have hmm := @run_makeMap Try.prog
  go_enter Try.func6, Try.ntmps6
  go_wp2_with fail
  go_ret
  refine ⟨_, fun k => k = w.heap.size ∨ k = w.heap.size + 1 ∨ k = w.heap.size + 1 + 1, rfl, ⟨_, _, _, _, ⟨h3, ⟨.inr (.inr rfl), .inl rfl, .inr (.inl rfl)⟩, by omega, h1, fun k => rfl, h2, ⟨fun k h hk => (by cases hk), fun k _ => rfl, fun k k' h h' b hk => (by cases hk)⟩, ?_⟩⟩, ?_, hF⟩
  · intro k hk
    simp only [World.size_alloc]
    omega
  · intro k hk
    omega
theorem wr_own {e : TypeId} {w : World} {base : Nat} {ok : Nat → Prop} {v : Value} {xs : List Wr} (h : wrK.R e w base ok v xs) : wrK.R e w base (fun b => v.ownBlock = some b) v xs := by
  obtain ⟨_, inner, hown, hr⟩ := h
  exact ⟨fun k hk => hk, inner, hown, hr.imp_ (fun x c h => by rw [wrFlat.K (wrK.K_of_M h)]; exact wrK_M _ _ _ _)⟩
theorem LogsAt.append {w w1 : World} {S : Nat → Prop} {Lh : ByteArray → Option Hdr} {G : ByteArray → List Wr} (h : LogsAt w S Lh G) {key : ByteArray} {e : Wr} {v0 : Value} (hv0 : v0 = (Lh key).elim (.slice none 0 0) hdrV) {top : Nat} {h1 : Hdr}
    (hR1 : wrK.R 67 w1 0 (fun b => S b ∨ top ≤ b) (hdrV h1) (G key ++ [e])) (hg : w.grownBy w1 v0.ownBlock) (hat : (hdrV h1).ownBlock = v0.ownBlock ∨ ∃ b, (hdrV h1).ownBlock = some b ∧ w.heap.size ≤ b) :
    LogsAt w1 (fun b => S b ∨ (top ≤ b ∧ b < w1.heap.size)) (fun x => if x = key then some h1 else Lh x) (fun x => if x = key then G key ++ [e] else G x) := by
  have hv : ∀ b, v0.ownBlock = some b → ∃ h0, Lh key = some h0 ∧ (hdrV h0).ownBlock = some b := fun b hb => by
    cases hq : Lh key with
    | none => rw [hv0, hq] at hb; simp [Value.ownBlock] at hb
    | some h0 => rw [hv0, hq] at hb; exact ⟨h0, rfl, hb⟩
  have hx : ∀ k h' b, k ≠ key → Lh k = some h' → (hdrV h').ownBlock = some b → some b ≠ v0.ownBlock := fun k h' b hk hq hb he => by
    obtain ⟨h0, q0, o0⟩ := hv b he.symm
    exact hk (h.apart k key h' h0 b hq q0 hb o0)
  have hy : ∀ k h' b, k ≠ key → Lh k = some h' → (hdrV h').ownBlock = some b → (hdrV h1).ownBlock ≠ some b := fun k h' b hk hq hb he => by
    rcases hat with hat | ⟨b1, hb1, hl⟩
    · exact hx k h' b hk hq hb (by rw [← he, hat])
    · rw [he] at hb1
      injection hb1 with hb1
      have := Kd.R_lt (h.row k h' hq) b hb
      omega
  refine ⟨fun k h' hk => ?_, fun k hk => ?_, fun k k' h' h'' b hk hk' hb hb' => ?_⟩
  · by_cases hkk : k = key
    · subst hkk
      rw [if_pos rfl] at hk
      cases hk
      show wrK.R _ w1 0 _ (hdrV h1) (if k = k then G k ++ [e] else G k)
      rw [if_pos rfl]
      exact Kd.R_mono (Kd.R_bound hR1) (fun b hb => hb.1.elim .inl (fun h => .inr ⟨h, hb.2.2.1⟩))
    · rw [if_neg hkk] at hk
      show wrK.R _ w1 0 _ (hdrV h') (if k = key then G key ++ [e] else G k)
      rw [if_neg hkk]
      have h0 := h.row k h' hk
      exact Kd.R_mono (Kd.R_step (wr_own h0) (fun b hb hl => hg.block b hl (hx k h' b hkk hk hb))) (fun b hb => .inl (h0.1 b hb))
  · by_cases hkk : k = key
    · rw [if_pos hkk] at hk
      cases hk
    · rw [if_neg hkk] at hk
      show (if k = key then G key ++ [e] else G k) = []
      rw [if_neg hkk]
      exact h.none_ k hk
  · by_cases hkk : k = key <;> by_cases hkk' : k' = key
    · rw [hkk, hkk']
    · rw [if_pos hkk] at hk
      rw [if_neg hkk'] at hk'
      cases hk
      exact absurd hb (hy k' h'' b hkk' hk' hb')
    · rw [if_neg hkk] at hk
      rw [if_pos hkk'] at hk'
      cases hk'
      exact absurd hb' (hy k h' b hkk hk hb)
    · rw [if_neg hkk] at hk
      rw [if_neg hkk'] at hk'
      exact h.apart k k' h' h'' b hk hk' hb hb'
theorem logOf_put {H : List HE} {e : HE} (h : cmdOk e.2.2 ∧ e.2.2.1 ≠ 1) : logOf (H ++ [e]) = fun x => if x = e.2.2.2.1 then logOf H e.2.2.2.1 ++ [(e.1, e.2.1)] else logOf H x := by
  funext x
  by_cases hx : x = e.2.2.2.1
  · rw [if_pos hx, hx, logOf_yes ⟨rfl, h.1, h.2⟩]
  · rw [if_neg hx, logOf_no fun hw => hx hw.1.symm]
theorem logOf_same {H : List HE} {e : HE} (h : ¬ (cmdOk e.2.2 ∧ e.2.2.1 ≠ 1)) : logOf (H ++ [e]) = logOf H := by
  funext x
  exact logOf_no fun hw => h ⟨hw.2.1, hw.2.2⟩
theorem cellOf_put {H : List HE} {e : HE} {F : ByteArray → Option CellD} (hF : ∀ k, (F k).getD (false, 0) = cellOf H k) {u : CellD} (hu : u = (doC (cellOf H e.2.2.2.1) e.2.2).1) :
    ∀ k, ((if k = e.2.2.2.1 then some u else F k) : Option CellD).getD (false, 0) = cellOf (H ++ [e]) k := fun k => by
  rw [cellOf_snoc]
  unfold cellStep
  by_cases hk : k = e.2.2.2.1
  · subst hk
    rw [if_pos rfl, cdec_true rfl, hu]
    rfl
  · rw [if_neg hk, cdec_false fun h => hk h.symm, hF]
    rfl
theorem logOf_len (H : List HE) (key : ByteArray) : (logOf H key).length ≤ H.length := by
  unfold logOf
  rw [List.length_map]
  exact List.length_filter_le _ _
theorem tagN_len (id : Int × Int) (L : List Cmd) (k : Nat) : (tagN id L k).length = k := by unfold tagN; rw [List.length_map, List.length_range]
end Go.Proofs.Ytepfhcimmbkilaa
/- Vaults: Get, Log, Count. -/
namespace Go.Proofs.Ytepfhcimmbkilaa
open Go.RowKit
open Go.Proofs.YtepfhcimmbkilaaW.PrintWords

theorem zero_cell' (w : World) : (zeroValue 53).run Try.prog w = .ok (cellV (false, 0)) w := by kernel_rfl
theorem zero_wrs' (w : World) : (zeroValue 57).run Try.prog w = .ok (.slice none 0 0) w := by kernel_rfl
theorem VaultAt.look {w : World} {S : Nat → Prop} {g mc ml : Nat} {F : ByteArray → Option CellD} {Lh : ByteArray → Option Hdr} {H : List HE} {n : Nat} (h : VaultAt w S g mc ml F Lh H n) {key : ByteArray} (hk : key.size ≤ maxLen) :
    (Instr.lookup 59 (.map (some mc)) (.string key) false).run Try.prog w = .ok (cellV (cellOf H key)) w := by
  have := h.cells.lookup (t := 59) (et := 53) Try.underlying59 (z := cellV (false, 0)) (zero_cell' w) (a := key) hk
  rw [← h.cell]
  cases hq : F key <;> rw [hq] at this <;> exact this
theorem VaultAt.lookL {w : World} {S : Nat → Prop} {g mc ml : Nat} {F : ByteArray → Option CellD} {Lh : ByteArray → Option Hdr} {H : List HE} {n : Nat} (h : VaultAt w S g mc ml F Lh H n) {key : ByteArray} (hk : key.size ≤ maxLen) :
    ∃ A c, (Instr.lookup 60 (.map (some ml)) (.string key) false).run Try.prog w = .ok (.slice A (logOf H key).length c) w ∧ wrK.R 67 w 0 S (.slice A (logOf H key).length c) (logOf H key) := by
  have h0 := h.logs.lookup (t := 60) (et := 57) Try.underlying60 (z := .slice none 0 0) (zero_wrs' w) (a := key) hk
  have hR : wrK.R 67 w 0 S ((Lh key).elim (.slice none 0 0) hdrV) (logOf H key) := by
    cases hq : Lh key with
    | none => rw [h.log.none_ _ hq]; exact Kd.R_nil _ _ _ _ _
    | some h0 => exact h.log.row _ _ hq
  obtain ⟨A, c, he⟩ := Kd.R_slice hR
  rw [he] at h0 hR
  exact ⟨A, c, h0, hR⟩
theorem vault_get (g n : Nat) (S : Nat → Prop) (H : List HE) (key : ByteArray) (w : World) (h : VaultRep w S g H n) (hk : key.size ≤ maxLen) :
    Calls Try.prog 19 #[.pointer (some ⟨g, 0, none⟩), .string key] w fun r w' => r = .returned (cellV (cellOf H key)) ∧ Fr (fun _ => False) w w' := by
  obtain ⟨mc, ml, F, Lh, hV⟩ := h
  have hF := (Fr.refl (fun _ => False) w).alloc (.cells #[.bool false, .float .f64 0] 53)
  have hB := Blk.new w 53 #[.bool false, .float .f64 0]
  have hV1 := hV.fr hF (fun _ _ h => h)
  have hlk := hV1.look hk
  have v0 := hV1.blk.cell 0
  simp only [List.getElem?_toArray, List.getElem?_cons_zero, List.getElem?_cons_succ] at v0
  have HB := Lib.hid hB
  obtain ⟨c, hc⟩ : ∃ c, c = cellOf H key := ⟨_, rfl⟩
  rw [← hc] at hlk ⊢
  have HC := Lib.hid hc
  clear hB hV hV1 hc
  go_enter Try.func19, Try.ntmps19
  go_wp2_with fail
  trace_state
  exact bodyPost_ret (results_cell_row Try.results19 _ _ w.heap.size _ _ _ _ rfl (Blk.new w 53 #[.bool c.1, .float .f64 c.2]) Try.underlying53 rfl (by kernel_rfl)) rfl ⟨rfl, (Fr.refl (fun _ => False) w).alloc _⟩
theorem vault_log (g n : Nat) (S : Nat → Prop) (H : List HE) (key : ByteArray) (w : World) (h : VaultRep w S g H n) (hk : key.size ≤ maxLen) (hHl : H.length ≤ 1000000000) :
    Calls Try.prog 20 #[.pointer (some ⟨g, 0, none⟩), .string key] w fun r w' => ∃ v, r = .returned v ∧ wrK.R 67 w' w.heap.size (fun b => w.heap.size ≤ b) v (logOf H key) ∧ Fr (fun _ => False) w w' := by
  obtain ⟨mc, ml, F, Lh, hV⟩ := h
  have hF := (Fr.refl (fun _ => False) w).alloc (.cells #[] 67)
  have hV1 := hV.fr hF (fun _ _ h => h)
  obtain ⟨A, c, hlk, hR⟩ := hV1.lookL hk
  have v1 := hV1.blk.cell 1
  simp only [List.getElem?_toArray, List.getElem?_cons_zero, List.getElem?_cons_succ] at v1
  have hC := (Kd.R_reads' hR).2.2
  have hll := logOf_len H key
  obtain ⟨A1, c1, w1, hr, hR1, hg1⟩ := app_flat (P := Try.prog) wrFlat (xs := logOf H key) (n := (logOf H key).length) (c := c) (A := A) 57 57 _ 24 Try.underlying57 info_wr rfl (by decide) (by decide) (R_empty wrK 67 w) hC (fun k hk => by simp only [World.size_alloc] at hk; omega) (by simp) (by omega)
  have HF1 := Lib.hid (hF.trans' (Fr.of_grown hg1) (fun i hi h => by simp [Value.ownBlock] at h; omega))
  have HR1 := Lib.hid hR1
  have hr' := bi_append hr
  clear hC hR hV hV1 hg1 hR1 hF hr
  go_enter Try.func20, Try.ntmps20
  go_wp2_with (at_builtin; refine wpl_builtin2 rfl rfl rfl rfl hr' ?_)
  go_ret
  exact ⟨_, rfl, HR1.out, HF1.out⟩
end Go.Proofs.Ytepfhcimmbkilaa
/- Keys of commands, by the reference: each once, rising. -/
namespace Go.Proofs.Ytepfhcimmbkilaa
open Go.RowKit
open Go.Proofs.YtepfhcimmbkilaaW.PrintWords

theorem Flat.C_mv {α : Type} {d : Kd α} {enc : α → List Value} (hf : Flat d enc) {w w' : World} {A : Option Addr} {n : Nat} {L : List α} (h : d.C w A n L) (hb : 0 < n → ∀ ad, A = some ad → w'.heap[ad.block]? = w.heap[ad.block]?) : d.C w' A n L := by
  refine ⟨h.1, h.2.1, fun hp => ?_⟩
  obtain ⟨ad, hA, hc⟩ := h.2.2 hp
  refine ⟨ad, hA, ?_⟩
  intro j p hj
  obtain ⟨c, hs, hr, hcell⟩ := hc j p hj
  rw [hf.K hr] at hcell
  exact ⟨enc p, hf.len p, d.K_of_M (hf.M w' 0 (fun _ => True) p), fun i u hu => (World.cell?_of_block (by rw [add_block]; exact hb hp ad hA)).trans (hcell i u hu)⟩
abbrev strK : Kd ByteArray := Kd.string
abbrev strCells (s : ByteArray) : List Value := [.string s]
theorem strK_K {w : World} {a : ByteArray} {c : List Value} (h : strK.K w a c) : c = [.string a] := h
theorem strFlat : Flat strK strCells := ⟨fun _ => rfl, fun h => strK_K h, fun _ _ _ _ => rfl⟩
theorem info_str : (Try.prog.info? 9).map (fun i => (i.zero, i.size, i.bytes)) = some (some (.string ByteArray.empty), strK.sz, 16) := by kernel_rfl
def stx (L : List ByteArray) (i : Nat) : ByteArray := L.getD i ByteArray.empty
theorem stx_eq {L : List ByteArray} {i : Nat} (h : i < L.length) : stx L i = L[i] := by unfold stx; rw [List.getD_eq_getElem?_getD, List.getElem?_eq_getElem h]; rfl
theorem stx_mem {L : List ByteArray} {i : Nat} (h : i < L.length) : stx L i ∈ L := by rw [stx_eq h]; exact List.getElem_mem h
theorem take_stx {L : List ByteArray} {k : Nat} (h : k < L.length) : L.take (k + 1) = L.take k ++ [stx L k] := by rw [List.take_succ_eq_append_getElem h, stx_eq h]
theorem strs_at {w : World} {A : Option Addr} {n : Nat} {L : List ByteArray} (h : strK.C w A n L) {i : Nat} (hi : i < n) : ∃ b off, A = some ⟨b, off, none⟩ ∧ w.cell? ⟨b, off + i, none⟩ = some (.string (stx L i)) := by
  obtain ⟨b, off, c, hi', hA, hc, hk, hcell⟩ := C_at h (by decide) hi
  rw [← stx_eq hi'] at hk
  have hk := strK_K hk
  subst hk
  have hs : strK.sz = 1 := rfl
  rw [hs, Nat.mul_one] at hcell
  exact ⟨b, off, hA, hcell 0 _ rfl⟩
def ltS (a b : ByteArray) : Bool := Op.bytesLess a.toList b.toList
/-- One step of putting x into a row: whether it is in, and what there is. -/
def insStep (x : ByteArray) (s : Bool × List ByteArray) (y : ByteArray) : Bool × List ByteArray := if (!s.1 && ltS x y) = true then (true, s.2 ++ [x] ++ [y]) else (s.1, s.2 ++ [y])
def insRun (x : ByteArray) (out : List ByteArray) : Bool × List ByteArray := out.foldl (insStep x) (false, [])
def insL (x : ByteArray) (out : List ByteArray) : List ByteArray := if (insRun x out).1 = true then (insRun x out).2 else (insRun x out).2 ++ [x]
noncomputable def keyStep (out : List ByteArray) (c : Cmd) : List ByteArray := bif cdec (c.2.1 ∈ out) then out else insL c.2.1 out
noncomputable def keysR (L : List Cmd) : List ByteArray := L.foldl keyStep []
theorem insRun_snoc (x : ByteArray) (out : List ByteArray) (y : ByteArray) : insRun x (out ++ [y]) = insStep x (insRun x out) y := by unfold insRun; rw [List.foldl_append]; rfl
theorem insRun_inv (x : ByteArray) (out : List ByteArray) : ((insRun x out).1 = false → (insRun x out).2 = out) ∧ ((insRun x out).1 = true → ∀ s, s ∈ (insRun x out).2 ↔ s = x ∨ s ∈ out) ∧ (insRun x out).2.length ≤ out.length + 1 := by
  have key : ∀ (k : Nat) (out : List ByteArray), out.length = k → ((insRun x out).1 = false → (insRun x out).2 = out) ∧ ((insRun x out).1 = true → ∀ s, s ∈ (insRun x out).2 ↔ s = x ∨ s ∈ out) ∧ (insRun x out).2.length ≤ out.length + (if (insRun x out).1 = true then 1 else 0) := by
    intro k
    induction k with
    | zero =>
      intro out h
      rw [List.eq_nil_of_length_eq_zero h]
      exact ⟨fun _ => rfl, (fun h => by cases h), Nat.zero_le _⟩
    | succ k ih =>
      intro out h
      obtain ⟨l, y, rfl⟩ : ∃ l y, out = l ++ [y] := by
        rcases List.eq_nil_or_concat out with rfl | ⟨l, y, rfl⟩
        · simp at h
        · exact ⟨l, y, by simp⟩
      have hl : l.length = k := by simpa using h
      obtain ⟨h1, h2, h3⟩ := ih l hl
      rw [insRun_snoc]
      unfold insStep
      cases hd : (insRun x l).1
      · rw [hd] at h3
        have h4 := h1 hd
        cases ht : ltS x y
        · simp [h4]
        · simp only [h4, Bool.not_false, Bool.true_and, if_true]
          refine ⟨(fun h => by cases h), fun _ s => ?_, by simp⟩
          simp only [List.mem_append, List.mem_singleton]
          constructor
          · rintro ((h | h) | h)
            · exact .inr (.inl h)
            · exact .inl h
            · exact .inr (.inr h)
          · rintro (h | h | h)
            · exact .inl (.inr h)
            · exact .inl (.inl h)
            · exact .inr h
      · rw [hd] at h3
        have h4 := h2 hd
        simp only [Bool.not_true, Bool.false_and, Bool.false_eq_true, if_false, if_true] at h3 ⊢
        refine ⟨(fun h => by cases h), fun _ s => ?_, by simp; omega⟩
        simp only [List.mem_append, List.mem_singleton, h4 s]
        constructor
        · rintro ((h | h) | h)
          · exact .inl h
          · exact .inr (.inl h)
          · exact .inr (.inr h)
        · rintro (h | h | h)
          · exact .inl (.inl h)
          · exact .inl (.inr h)
          · exact .inr h
  obtain ⟨h1, h2, h3⟩ := key out.length out rfl
  refine ⟨h1, h2, ?_⟩
  split at h3 <;> omega
theorem insL_mem (x : ByteArray) (out : List ByteArray) (s : ByteArray) : s ∈ insL x out ↔ s = x ∨ s ∈ out := by
  obtain ⟨h1, h2, _⟩ := insRun_inv x out
  unfold insL
  cases hd : (insRun x out).1
  · rw [h1 hd]
    simp [or_comm]
  · simp only [if_true]
    exact h2 hd s
theorem insL_len (x : ByteArray) (out : List ByteArray) : (insL x out).length ≤ out.length + 1 := by
  obtain ⟨h1, _, h3⟩ := insRun_inv x out
  unfold insL
  cases hd : (insRun x out).1
  · simp [h1 hd]
  · simpa using h3
theorem keysR_snoc (L : List Cmd) (c : Cmd) : keysR (L ++ [c]) = keyStep (keysR L) c := by unfold keysR; rw [List.foldl_append]; rfl
theorem keyStep_mem (out : List ByteArray) (c : Cmd) (s : ByteArray) : s ∈ keyStep out c ↔ s = c.2.1 ∨ s ∈ out := by
  unfold keyStep
  by_cases h : c.2.1 ∈ out
  · rw [cdec_true h, cond_true]
    exact ⟨.inr, fun hs => hs.elim (fun e => e ▸ h) (fun h => h)⟩
  · rw [cdec_false h, cond_false]
    exact insL_mem _ _ _
theorem keysF_mem (L : List Cmd) : ∀ (out : List ByteArray) (s : ByteArray), s ∈ L.foldl keyStep out ↔ s ∈ out ∨ ∃ c ∈ L, c.2.1 = s := by
  induction L with
  | nil => intro out s; simp
  | cons c L ih =>
    intro out s
    rw [List.foldl_cons, ih, keyStep_mem]
    simp only [List.mem_cons, exists_eq_or_imp]
    constructor
    · rintro ((h | h) | h)
      · exact .inr (.inl h.symm)
      · exact .inl h
      · exact .inr (.inr h)
    · rintro (h | h | h)
      · exact .inl (.inr h)
      · exact .inl (.inl h.symm)
      · exact .inr h
theorem keysR_mem (L : List Cmd) (s : ByteArray) : s ∈ keysR L ↔ ∃ c ∈ L, c.2.1 = s := by
  unfold keysR
  rw [keysF_mem]
  simp
theorem keysR_take_len {L : List Cmd} : ∀ k, k ≤ L.length → (keysR (L.take k)).length ≤ k
  | 0, _ => Nat.le_refl _
  | k + 1, hk => by
    rw [List.take_succ_eq_append_getElem (by omega), keysR_snoc]
    have := keysR_take_len (L := L) k (by omega)
    unfold keyStep
    cases cdec (L[k].2.1 ∈ keysR (L.take k))
    · rw [cond_false]
      have := insL_len L[k].2.1 (keysR (L.take k))
      omega
    · rw [cond_true]; omega
set_option maxHeartbeats 1000000 in
theorem ref_in7 (A : Option Addr) (n c : Nat) (L : List ByteArray) (s : ByteArray) (w : World) (h : strK.C w A n L) (hn : n ≤ 9223372036854775807) :
    Calls Try.prog 57 #[.slice A n c, .string s] w fun r w' => r = .returned (.bool (cdec (s ∈ L))) ∧ Fr (fun _ => False) w w' := by
  have HL := Lib.hid (show L.length = n from h.1)
  have HC := Lib.hid h
  clear h
  go_enter Try.func57, Try.ntmps57
  go_wp2_with fail
  go_loopw [5] (fun i wr => ∃ k : Nat, k ≤ n ∧ i = .int .i64 k ∧ (∀ x, x < k → stx L x ≠ s) ∧ Fr (fun _ => False) w wr) (fun i _ => n - (intOf i).toNat)
  case atStart => exact ⟨0, Nat.zero_le _, rfl, fun _ h => by omega, Fr.refl _ _⟩
  case round =>
    obtain ⟨k, hk, rfl, hno, hG⟩ := hrel
    have HNO := Lib.hid hno
    have HG := Lib.hid hG
    clear hno hG
    rcases Nat.lt_or_ge k n with hlt | hge
    · obtain ⟨b, off, rfl, h0⟩ := strs_at (Kd.C_below HC.out (HG.out.below (fun _ _ h => h))) hlt
      have hse := beq_list (a := stx L k) (b := s)
      by_cases hq : stx L k = s
      · rw [cdec_true hq] at hse
        have HM := Lib.hid (show s ∈ L from by rw [← hq]; exact stx_mem (by rw [HL.out]; exact hlt))
        clear hq
        go_wp2_with fail
        go_ret
        exact ⟨ret_bool (cdec_true HM.out).symm, HG.out⟩
      · rw [cdec_false hq] at hse
        have HQ := Lib.hid hq
        clear hq
        go_wp2_with fail
        go_roundw
        case rel =>
          refine ⟨k + 1, by omega, by go_num, fun x hx => ?_, HG.out⟩
          rcases Nat.lt_or_ge x k with h | h
          · exact HNO.out x h
          · obtain rfl : x = k := by omega
            exact HQ.out
        case measure => simp [intOf]; omega
    · go_wp2_with fail
      go_ret
      refine ⟨ret_bool (cdec_false fun hm => ?_).symm, HG.out⟩
      obtain ⟨j, hj, he⟩ := List.mem_iff_getElem.1 hm
      exact HNO.out j (by have := HL.out; omega) (by rw [stx_eq hj]; exact he)
set_option maxRecDepth 100000 in
set_option maxHeartbeats 4000000 in
theorem ref_keys7 (A : Option Addr) (n c : Nat) (L : List Cmd) (w : World) (hC : cmdK.C w A n L) (hn : n ≤ 100000) :
    Calls Try.prog 38 #[.slice A n c] w fun r w' => ∃ v, r = .returned v ∧ strK.R 9 w' w.heap.size (fun b => w.heap.size ≤ b) v (keysR L) ∧ Fr (fun _ => False) w w' := by
  have HLn := Lib.hid (show L.length = n from hC.1)
  have HC := Lib.hid hC
  have HF := Lib.hid ((Fr.refl (fun _ => False) w).alloc (.cells #[] 9))
  have HR0 := Lib.hid (R_empty strK 9 w)
  clear hC
  go_enter Try.func38, Try.ntmps38
  go_wp2_with fail
  go_loopw [3, 4] (fun u i wr => ∃ k : Nat, k ≤ n ∧ i = .int .i64 k ∧ strK.R 9 wr w.heap.size (fun b => w.heap.size ≤ b) u (keysR (L.take k)) ∧ Fr (fun _ => False) w wr) (fun _ i _ => n - (intOf i).toNat)
  case atStart => exact ⟨0, Nat.zero_le _, rfl, HR0.out, HF.out⟩
  case round =>
    obtain ⟨k, hk, rfl, hR, hG⟩ := hrel
    have HG := Lib.hid hG
    have HR := Lib.hid hR
    clear hG hR
    rcases Nat.lt_or_ge k n with hlt | hge
    · obtain ⟨b, off, rfl, h0w, h1w, h2w⟩ := cmds_at HC.out hlt
      have h1 := HG.out.cell h1w (fun h => h)
      have H1w := Lib.hid h1w
      have hts : keysR (L.take (k + 1)) = keyStep (keysR (L.take k)) (cmx L k) := by rw [List.take_succ_eq_append_getElem (by rw [HLn.out]; exact hlt), keysR_snoc, cmx_eq (by rw [HLn.out]; exact hlt)]
      have HTS := Lib.hid hts
      have HKL := Lib.hid (keysR_take_len (L := L) k (by rw [HLn.out]; exact hk))
      obtain ⟨A3, c3, rfl⟩ := Kd.R_slice HR.out
      have HCk := Lib.hid (Kd.R_reads' HR.out).2.2
      obtain ⟨out, hout⟩ : ∃ o, o = keysR (L.take k) := ⟨_, rfl⟩
      rw [← hout] at HTS HKL HCk HR ⊢
      have HOUT := Lib.hid hout
      have hol : out.length ≤ 9223372036854775807 := by have := HKL.out; omega
      clear hts h0w h1w h2w hout
      go_wp2_with fail
      refine (ref_in7 A3 out.length c3 out (cmx L k).2.1 wr HCk.out hol).mono ?_
      rintro r w2 ⟨rfl, hF2⟩
      have HF2 := Lib.hid hF2
      by_cases hin : (cmx L k).2.1 ∈ out
      · rw [cdec_true hin]
        have hst : keyStep out (cmx L k) = out := by unfold keyStep; rw [cdec_true hin, cond_true]
        have HST := Lib.hid hst
        clear hin hst hF2
        go_wp2_with fail
        go_roundw
        case rel => exact ⟨k + 1, by omega, by go_num, by rw [HTS.out, HST.out]; exact Kd.R_below HR.out (HF2.out.below (fun _ _ h => h)), HG.out.trans HF2.out⟩
        case measure => simp [intOf]; omega
      · rw [cdec_false hin]
        have hst : keyStep out (cmx L k) = insL (cmx L k).2.1 out := by unfold keyStep; rw [cdec_false hin, cond_false]
        have HST := Lib.hid hst
        obtain ⟨x, hx⟩ : ∃ x, x = (cmx L k).2.1 := ⟨_, rfl⟩
        rw [← hx] at H1w HST
        have HX := Lib.hid hx
        have HF3 := Lib.hid (HG.out.trans (HF2.out.alloc (.cells #[] 9)))
        have HR5 := Lib.hid (Kd.R_mono (Kd.R_lower (R_empty strK 9 w2) (HG.out.trans HF2.out).size) (ok' := fun b => w.heap.size ≤ b) (fun b hb => Nat.le_trans (HG.out.trans HF2.out).size hb))
        have HCk2 := Lib.hid (Kd.C_below HCk.out ((HF2.out.alloc (.cells #[] 9)).below (fun _ _ h => h)))
        have HK3 := Lib.hid (Kd.R_alloc (Kd.R_below HR.out (HF2.out.below (fun _ _ h => h))) (.cells #[] 9))
        have hb3 : ∀ b3, (Value.slice A3 out.length c3).ownBlock = some b3 → b3 < w2.heap.size := fun b3 hb => Nat.lt_of_lt_of_le (Kd.R_lt HR.out b3 hb) HF2.out.size
        have HB3 := Lib.hid hb3
        have HFw2 := Lib.hid hF2
        have hre := Kd.R_mono (Kd.R_lower (R_empty strK 9 w2) (HG.out.trans HF2.out).size) (ok' := fun b => w2.heap.size ≤ b) (fun b hb => hb)
        have HRE := Lib.hid hre
        clear hin hst hF2 hx h1 hb3 hre
        go_wp2_with fail
        generalize hw3 : w2.alloc (.cells #[] 9) = w3 at HF3 HCk2 HK3 HRE ⊢
        generalize hg5 : w2.heap.size = g5 at HB3 HRE ⊢
        have hg53 : g5 < w3.heap.size ∧ w.heap.size ≤ g5 := by
          constructor
          · rw [← hw3, ← hg5]; simp
          · rw [← hg5]; exact (HG.out.trans (show Fr (fun _ => False) wr w2 from HFw2.out)).size
        have HG53 := Lib.hid hg53
        have HR5' := Lib.hid (Kd.R_mono (show strK.R 9 w3 w.heap.size (fun b => g5 ≤ b) (.slice (some ⟨g5, 0, none⟩) 0 0) [] from HRE.out) (fun b hb => hb))
        have hmv : ∀ ws, Fr (fun b => g5 ≤ b) w3 ws → strK.C ws A3 out.length out := fun ws hF => strFlat.C_mv HCk2.out (fun hp ad ha => hF.block ad.block (by
            obtain ⟨bq, oq, hq, h0⟩ := strs_at HCk2.out hp
            rw [ha] at hq
            cases hq
            exact World.block_lt_of_cell? w3 _ h0) (by
            obtain ⟨g, cap, hv, _, hl, _⟩ := Kd.R_form HR.out hp
            injection hv with hv _ _
            have := HB3.out g (by rw [hv]; rfl)
            rw [ha] at hv
            cases hv
            simp only
            omega))
        have hff : ∀ ws, Fr (fun b => g5 ≤ b) w3 ws → Fr (fun _ => False) w ws := fun ws hF => HF3.out.trans' hF (fun i hi h => by have := HG53.out.2; omega)
        have HMV := Lib.hid hmv
        have HFF := Lib.hid hff
        clear hg53 hmv hff hw3 hg5
        go_loopw [5, 6, 7] (fun u d i wr => ∃ (q : Nat) (dd : Bool) (nx : List ByteArray), q ≤ out.length ∧ i = .int .i64 q ∧ d = .bool dd ∧ insRun x (out.take q) = (dd, nx) ∧ strK.R 9 wr w.heap.size (fun b => g5 ≤ b) u nx ∧ Fr (fun b => g5 ≤ b) w3 wr) (fun _ _ i _ => out.length - (intOf i).toNat)
        case atStart => exact ⟨0, false, [], Nat.zero_le _, rfl, rfl, rfl, HR5'.out, Fr.refl _ _⟩
        case round =>
          obtain ⟨q, dd, nx, hq, rfl, rfl, hrun, hR, hG⟩ := hrel
          have HGq := Lib.hid hG
          have HRq := Lib.hid hR
          have HRUN := Lib.hid hrun
          have hnl := (insRun_inv x (out.take q)).2.2
          rw [hrun, List.length_take] at hnl
          have HNL := Lib.hid hnl
          have h1 := (HFF.out _ hG).cell H1w.out (fun h => h)
          clear hG hR hrun hnl
          rcases Nat.lt_or_ge q out.length with hlq | hgq
          · obtain ⟨bo, oo, rfl, e0⟩ := strs_at (HMV.out _ HGq.out) hlq
            have hsn : insRun x (out.take (q + 1)) = insStep x (dd, nx) (stx out q) := by rw [take_stx hlq, insRun_snoc, HRUN.out]
            have HSN := Lib.hid hsn
            clear hsn
            have hcmp : Op.bytesLess x.toList (stx out q).toList = ltS x (stx out q) := rfl
            cases dd
            · cases hlt2 : ltS x (stx out q)
              · rw [hlt2] at hcmp
                have hst : insStep x (false, nx) (stx out q) = (false, nx ++ [stx out q]) := by unfold insStep; rw [hlt2]; rfl
                have HST := Lib.hid hst
                clear hlt2 hst
                go_wp2_with fail
                go_quiet (fail)
                have HRz := Lib.hid (Kd.R_drewN HRq.out nq)
                have HGz := Lib.hid (HGq.out.drewN nq)
                go_wp2_with (at_builtin; refine Kd.R_append strK w.heap.size rfl (.tmp 51) (.tmp 56) 43 9 _ 16 rfl Try.underlying43 info_str rfl (by decide) (by decide) u5 nx (stx out q) (strCells (stx out q)) (fun b => g5 ≤ b) (fun _ => False) (by rfl) (by rfl) rfl (fun _ h => h.elim) (fun b hb => by have h8 := HGz.out.size; have h9 := HG53.out; omega) HRz.out (Below.refl _ _) (by have h8 := HGz.out.size; have h9 := HG53.out; omega) (by have h1 := HNL.out; have h2 := HKL.out; omega) ?_; intro v1 w1a hR1 hB1 hg1 hat1; have HR1 := Lib.hid hR1; have HG1 := Lib.hid hg1; clear hR1 hB1 hg1 hat1)
                go_roundw
                case rel => exact ⟨q + 1, false, nx ++ [stx out q], by omega, by go_num, rfl, by rw [HSN.out, HST.out], HR1.out, HGz.out.trans' (Fr.of_grown HG1.out) (fun i hi h => HRz.out.1 i h.symm)⟩
                case measure => simp [intOf]; omega
              · rw [hlt2] at hcmp
                have hst : insStep x (false, nx) (stx out q) = (true, nx ++ [x] ++ [stx out q]) := by unfold insStep; rw [hlt2]; rfl
                have HST := Lib.hid hst
                clear hlt2 hst
                go_wp2_with fail
                go_quiet (fail)
                have HRz := Lib.hid (Kd.R_drewN HRq.out nq)
                have HGz := Lib.hid (HGq.out.drewN nq)
                have hey : ∀ w', Fr (fun b => g5 ≤ b) w3 w' → w'.cell? ⟨bo, oo + q, none⟩ = some (.string (stx out q)) := fun w' h => by
                  obtain ⟨b9, o9, h9, e9⟩ := strs_at (HMV.out _ h) hlq
                  cases h9
                  exact e9
                have HEY := Lib.hid hey
                clear hey
                go_wp2_with (first | (at_builtin; refine Kd.R_append strK w.heap.size rfl (.tmp 43) (.tmp 49) 43 9 _ 16 rfl Try.underlying43 info_str rfl (by decide) (by decide) u5 nx x (strCells x) (fun b => g5 ≤ b) (fun _ => False) (by rfl) (by rfl) rfl (fun _ h => h.elim) (fun b hb => by have h8 := HGz.out.size; have h9 := HG53.out; omega) HRz.out (Below.refl _ _) (by have h8 := HGz.out.size; have h9 := HG53.out; omega) (by have h1 := HNL.out; have h2 := HKL.out; omega) ?_; intro v1 w1a hR1 hB1 hg1 hat1; have HGy := Lib.hid (HGz.out.trans' (Fr.of_grown hg1) (fun i hi h => HRz.out.1 i h.symm)); have e02 := HEY.out _ HGy.out; have HR1 := Lib.hid hR1; clear hR1 hB1 hg1 hat1) | (at_builtin; refine Kd.R_append strK w.heap.size rfl (.tmp 51) (.tmp 56) 43 9 _ 16 rfl Try.underlying43 info_str rfl (by decide) (by decide) v1 (nx ++ [x]) (stx out q) (strCells (stx out q)) (fun b => g5 ≤ b) (fun _ => False) (by rfl) (by rfl) rfl (fun _ h => h.elim) (fun b hb => by have h8 := HGy.out.size; have h9 := HG53.out; omega) HR1.out (Below.refl _ _) (by have h8 := HGy.out.size; have h9 := HG53.out; omega) (by rw [List.length_append, List.length_singleton]; have h1 := HNL.out; have h2 := HKL.out; omega) ?_; intro v2 w2a hR2 hB2 hg2 hat2; have HR2 := Lib.hid hR2; have HG2 := Lib.hid hg2; clear hR2 hB2 hg2 hat2))
                go_roundw
                case rel => exact ⟨q + 1, true, nx ++ [x] ++ [stx out q], by omega, by go_num, rfl, by rw [HSN.out, HST.out], HR2.out, HGy.out.trans' (Fr.of_grown HG2.out) (fun i hi h => HR1.out.1 i h.symm)⟩
                case measure => simp [intOf]; omega
            · have hst : insStep x (true, nx) (stx out q) = (true, nx ++ [stx out q]) := rfl
              have HST := Lib.hid hst
              clear hst hcmp
              go_wp2_with fail
              go_quiet (fail)
              have HRz := Lib.hid (Kd.R_drewN HRq.out nq)
              have HGz := Lib.hid (HGq.out.drewN nq)
              go_wp2_with (at_builtin; refine Kd.R_append strK w.heap.size rfl (.tmp 51) (.tmp 56) 43 9 _ 16 rfl Try.underlying43 info_str rfl (by decide) (by decide) u5 nx (stx out q) (strCells (stx out q)) (fun b => g5 ≤ b) (fun _ => False) (by rfl) (by rfl) rfl (fun _ h => h.elim) (fun b hb => by have h8 := HGz.out.size; have h9 := HG53.out; omega) HRz.out (Below.refl _ _) (by have h8 := HGz.out.size; have h9 := HG53.out; omega) (by have h1 := HNL.out; have h2 := HKL.out; omega) ?_; intro v1 w1a hR1 hB1 hg1 hat1; have HR1 := Lib.hid hR1; have HG1 := Lib.hid hg1; clear hR1 hB1 hg1 hat1)
              go_roundw
              case rel => exact ⟨q + 1, true, nx ++ [stx out q], by omega, by go_num, rfl, by rw [HSN.out, HST.out], HR1.out, HGz.out.trans' (Fr.of_grown HG1.out) (fun i hi h => HRz.out.1 i h.symm)⟩
              case measure => simp [intOf]; omega
          · obtain rfl : q = out.length := by omega
            have hnx0 : nx.length ≤ out.length + 1 := by have h := HNL.out; simp only [Nat.min_self] at h; exact h
            have HNX := Lib.hid (show nx.length + 1 ≤ 9223372036854775807 from by have h2 := HKL.out; omega)
            have HNX0 := Lib.hid hnx0
            clear hnx0
            have tqq : decide (out.length < out.length) = false := decide_eq_false (by omega)
            have hrun := HRUN.out
            rw [List.take_length] at hrun
            cases dd
            · have hins : insL x out = nx ++ [x] := by unfold insL; rw [hrun]; rfl
              have HINS := Lib.hid hins
              clear hins hrun
              go_wp2_with (at_builtin; refine Kd.R_append strK w.heap.size rfl (.tmp 60) (.tmp 66) 43 9 _ 16 rfl Try.underlying43 info_str rfl (by decide) (by decide) u5 nx x (strCells x) (fun b => g5 ≤ b) (fun _ => False) (by rfl) (by rfl) rfl (fun _ h => h.elim) (fun b hb => by have h8 := HGq.out.size; have h9 := HG53.out; omega) HRq.out (Below.refl _ _) (by have h8 := HGq.out.size; have h9 := HG53.out; omega) (by have h1 := HNX0.out; have h2 := HKL.out; omega) ?_; intro v1 w5 hR1 hB1 hg1 hat1; have HR1 := Lib.hid hR1; have HG1 := Lib.hid hg1; clear hR1 hB1 hg1 hat1)
              go_roundw
              case rel =>
                refine ⟨k + 1, by omega, by go_num, ?_, HFF.out _ (HGq.out.trans' (Fr.of_grown HG1.out) (fun i hi h => HRq.out.1 i h.symm))⟩
                rw [HTS.out, HST.out, HINS.out]
                exact Kd.R_mono HR1.out (fun b hb => Nat.le_trans HG53.out.2 hb)
              case measure => simp [intOf]; omega
            · have hins : insL x out = nx := by unfold insL; rw [hrun]; rfl
              have HINS := Lib.hid hins
              clear hins hrun
              go_wp2_with fail
              go_roundw
              case rel =>
                refine ⟨k + 1, by omega, by go_num, ?_, HFF.out _ HGq.out⟩
                rw [HTS.out, HST.out, HINS.out]
                exact Kd.R_mono HRq.out (fun b hb => Nat.le_trans HG53.out.2 hb)
              case measure => simp [intOf]; omega
    · obtain rfl : n = k := by omega
      have tnn : decide (n < n) = false := decide_eq_false (by omega)
      have hl : L.take n = L := by rw [← HLn.out]; exact List.take_length
      go_wp2_with fail
      go_ret
      exact ⟨_, rfl, by rw [← hl]; exact HR.out, HG.out⟩
end Go.Proofs.Ytepfhcimmbkilaa
/- The reference's keys stand in rising order; rising lists of the same texts are one. -/
namespace Go.Proofs.Ytepfhcimmbkilaa
open Go.RowKit
open Go.Proofs.YtepfhcimmbkilaaW.PrintWords

theorem foldT (x : ByteArray) : ∀ (r q : List ByteArray), r.foldl (insStep x) (true, q) = (true, q ++ r) := by
  intro r
  induction r with
  | nil => intro q; simp
  | cons y r ih =>
    intro q
    rw [List.foldl_cons, show insStep x (true, q) y = (true, q ++ [y]) from rfl, ih]
    simp
theorem insF (x : ByteArray) : ∀ (r p : List ByteArray), (∀ y ∈ p, ltS x y = false) → ∃ p1 p2, p ++ r = p1 ++ p2 ∧ (if (r.foldl (insStep x) (false, p)).1 = true then (r.foldl (insStep x) (false, p)).2 else (r.foldl (insStep x) (false, p)).2 ++ [x]) = p1 ++ x :: p2 ∧
    (∀ y ∈ p1, ltS x y = false) ∧ (∀ z t, p2 = z :: t → ltS x z = true) := by
  intro r
  induction r with
  | nil => intro p hp; exact ⟨p, [], by simp, by simp, hp, fun z t h => by cases h⟩
  | cons y r ih =>
    intro p hp
    rw [List.foldl_cons]
    cases hy : ltS x y
    · have hs : insStep x (false, p) y = (false, p ++ [y]) := by unfold insStep; rw [hy]; rfl
      rw [hs]
      obtain ⟨p1, p2, h1, h2, h3, h4⟩ := ih (p ++ [y]) (fun z hz => by
        rcases List.mem_append.1 hz with hz | hz
        · exact hp z hz
        · rw [List.mem_singleton.1 hz]; exact hy)
      exact ⟨p1, p2, by rw [← h1]; simp, h2, h3, h4⟩
    · have hs : insStep x (false, p) y = (true, p ++ [x] ++ [y]) := by unfold insStep; rw [hy]; rfl
      rw [hs, foldT]
      exact ⟨p, y :: r, rfl, by simp, hp, fun z t h => by cases h; exact hy⟩
theorem ltS_iff (a b : ByteArray) : ltS a b = true ↔ a.toList < b.toList := by
  unfold ltS
  rw [bytesLess_eq]
  exact decide_eq_true_iff
theorem ltS_no (a b : ByteArray) : ltS a b = false ↔ ¬ a.toList < b.toList := by
  rw [← ltS_iff]
  simp
def Rising (l : List ByteArray) : Prop := l.Pairwise (fun a b => a.toList < b.toList)
theorem lt_of_not {a b : List UInt8} (h : ¬ a < b) (hn : b ≠ a) : b < a := by
  rcases List.le_iff_lt_or_eq.1 (List.not_lt.1 h) with h | h
  · exact h
  · exact absurd h hn
theorem insL_rising {x : ByteArray} {out : List ByteArray} (h : Rising out) (hx : x ∉ out) : Rising (insL x out) := by
  obtain ⟨p1, p2, h1, h2, h3, h4⟩ := insF x out [] (fun y hy => by cases hy)
  rw [List.nil_append] at h1
  have he : insL x out = p1 ++ x :: p2 := h2
  rw [he]
  unfold Rising at h ⊢
  rw [h1] at h hx
  obtain ⟨g1, g2, g3⟩ := List.pairwise_append.1 h
  have q2 : ∀ z ∈ p2, x.toList < z.toList := by
    cases p2 with
    | nil => intro z hz; cases hz
    | cons z t =>
      have hz := (ltS_iff _ _).1 (h4 z t rfl)
      intro y hy
      rcases List.mem_cons.1 hy with rfl | hy
      · exact hz
      · exact List.lt_trans hz ((List.pairwise_cons.1 g2).1 y hy)
  have q1 : ∀ y ∈ p1, y.toList < x.toList := fun y hy => lt_of_not ((ltS_no _ _).1 (h3 y hy)) (fun e => hx (List.mem_append_left _ (by rw [← toList_inj e]; exact hy)))
  refine List.pairwise_append.2 ⟨g1, List.pairwise_cons.2 ⟨q2, g2⟩, fun a ha b hb => ?_⟩
  rcases List.mem_cons.1 hb with rfl | hb
  · exact q1 a ha
  · exact List.lt_trans (q1 a ha) (q2 b hb)
theorem keysF_rising : ∀ (L : List Cmd) (out : List ByteArray), Rising out → Rising (L.foldl keyStep out) := by
  intro L
  induction L with
  | nil => intro out h; exact h
  | cons c L ih =>
    intro out h
    rw [List.foldl_cons]
    refine ih _ ?_
    by_cases hc : c.2.1 ∈ out
    · rw [show keyStep out c = out from by unfold keyStep; rw [cdec_true hc]; rfl]
      exact h
    · rw [show keyStep out c = insL c.2.1 out from by unfold keyStep; rw [cdec_false hc]; rfl]
      exact insL_rising h hc
theorem keysR_rising (L : List Cmd) : Rising (keysR L) := keysF_rising L [] List.Pairwise.nil
theorem rising_one : ∀ (a b : List ByteArray), Rising a → Rising b → (∀ s, s ∈ a ↔ s ∈ b) → a = b := by
  intro a
  induction a with
  | nil =>
    intro b _ _ h
    cases b with
    | nil => rfl
    | cons y b => exact absurd ((h y).2 (List.mem_cons_self ..)) (by simp)
  | cons x a ih =>
    intro b ha hb h
    cases b with
    | nil => exact absurd ((h x).1 (List.mem_cons_self ..)) (by simp)
    | cons y b =>
      obtain ⟨a1, a2⟩ := List.pairwise_cons.1 ha
      obtain ⟨b1, b2⟩ := List.pairwise_cons.1 hb
      have hxy : x = y := by
        rcases List.mem_cons.1 ((h x).1 (List.mem_cons_self ..)) with e | e
        · exact e
        · rcases List.mem_cons.1 ((h y).2 (List.mem_cons_self ..)) with e' | e'
          · exact e'.symm
          · exact absurd (List.lt_trans (a1 y e') (b1 x e)) (List.lt_irrefl _)
      subst hxy
      rw [ih b a2 b2 (fun s => ?_)]
      constructor
      · intro hs
        rcases List.mem_cons.1 ((h s).1 (List.mem_cons_of_mem _ hs)) with e | e
        · subst e; exact absurd (a1 s hs) (List.lt_irrefl _)
        · exact e
      · intro hs
        rcases List.mem_cons.1 ((h s).2 (List.mem_cons_of_mem _ hs)) with e | e
        · subst e; exact absurd (b1 s hs) (List.lt_irrefl _)
        · exact e
end Go.Proofs.Ytepfhcimmbkilaa
/- slices.Sort of a row of texts. -/
namespace Go.Proofs.Ytepfhcimmbkilaa
open Go.RowKit Go.Sort
open Go.Proofs.YtepfhcimmbkilaaW.PrintWords

theorem enc_tl (x : ByteArray) : encStr x.toList = .string x := by
  show Value.string ⟨x.toList.toArray⟩ = _
  rw [Lib.toList_data]
theorem tl_map (xs : List ByteArray) : (xs.map ByteArray.toList).map encStr = xs.flatMap strCells := by
  induction xs with
  | nil => rfl
  | cons x xs ih => rw [List.map_cons, List.map_cons, ih, enc_tl]; rfl
def bl (l : List UInt8) : ByteArray := ⟨l.toArray⟩
theorem bl_map (ts : List (List UInt8)) : ts.map encStr = (ts.map bl).flatMap strCells := by
  induction ts with
  | nil => rfl
  | cons x xs ih => rw [List.map_cons, List.map_cons, ih]; rfl
theorem bl_tl (l : List UInt8) : (bl l).toList = l := by rw [Lib.toList_data]; simp [bl]
theorem tl_bl (x : ByteArray) : bl x.toList = x := toList_inj (bl_tl _)
def sortB (xs : List ByteArray) : List ByteArray := ((xs.map ByteArray.toList).mergeSort fun x y => decide (x ≤ y)).map bl
theorem sortB_mem (xs : List ByteArray) (s : ByteArray) : s ∈ sortB xs ↔ s ∈ xs := by
  unfold sortB
  simp only [List.mem_map, List.mem_mergeSort]
  constructor
  · rintro ⟨l, ⟨x, hx, rfl⟩, rfl⟩
    rw [tl_bl]; exact hx
  · intro h
    exact ⟨s.toList, ⟨s, h, rfl⟩, tl_bl s⟩
theorem sortB_len (xs : List ByteArray) : (sortB xs).length = xs.length := by unfold sortB; simp
theorem sortB_rising {xs : List ByteArray} (h : xs.Nodup) : Rising (sortB xs) := by
  unfold sortB Rising
  rw [List.pairwise_map]
  have h1 : ((xs.map ByteArray.toList).mergeSort fun x y => decide (x ≤ y)).Pairwise (fun a b => decide (a ≤ b) = true) :=
    List.pairwise_mergeSort (fun a b c hab hbc => by simp only [decide_eq_true_eq] at *; exact List.le_trans hab hbc) (fun a b => by
      rcases List.le_total a b with h | h <;> simp [h]) _
  have h2 : ((xs.map ByteArray.toList).mergeSort fun x y => decide (x ≤ y)).Nodup :=
    (List.mergeSort_perm _ _).nodup_iff.2 (List.Pairwise.map _ (fun a b hab e => hab (toList_inj e)) h)
  refine (h1.and h2).imp ?_
  rintro a b ⟨hab, hne⟩
  rw [bl_tl, bl_tl]
  rcases List.le_iff_lt_or_eq.1 (of_decide_eq_true hab) with h | h
  · exact h
  · exact absurd h hne
theorem sort_strs {w : World} {base : Nat} {ok : Nat → Prop} {v : Value} {xs : List ByteArray} (hR : strK.R 9 w base ok v xs) (hsz : xs.length < 4611686018427387904) :
    Calls Try.prog 51 #[v] w fun r w' => r = .returned (.tuple #[]) ∧ strK.R 9 w' base ok v (sortB xs) ∧ Fr (fun b => some b = v.ownBlock) w w' := by
  obtain ⟨hok, inner, hown, hr⟩ := hR
  have hi : inner = xs.flatMap strCells := strFlat.of_reps xs inner (hr.imp_ (fun x c h => strFlat.K (strK.K_of_M h)))
  subst hi
  rcases hown.2 with ⟨hnil, h0⟩ | ⟨g, cap, cur, rfl, hbase, hb, h1, h2, h3, h4⟩
  · subst hnil
    have hx : xs = [] := by
      cases xs with
      | nil => rfl
      | cons x xs => simp at h0
    subst hx
    refine (Try.slices_Sort_string_none none 0 w).mono ?_
    rintro r w' ⟨rfl, rfl⟩
    exact ⟨rfl, by rw [show sortB [] = [] from by simp [sortB]]; exact ⟨hok, _, hown, hr⟩, Fr.refl _ _⟩
  · have hl : (xs.map ByteArray.toList).length = xs.length := List.length_map _
    have hH : Holds encStr w g 0 (xs.map ByteArray.toList).toArray := holds_of_block hb (by rw [hl, tl_map]; rw [show xs.length = xs.length * strK.sz from (Nat.mul_one _).symm]; exact h4)
    have hc := Try.slices_Sort_string g 0 cap (xs.map ByteArray.toList) w hH (Array.getElem?_eq_some_iff.1 hb).1 (by rw [hl]; exact hsz)
    rw [hl] at hc
    refine hc.mono ?_
    rintro r w' ⟨rfl, n, os, rfl⟩
    have ho := ownsRow_sorted (w := w) (base := base) (g := g) (cap := cap) (n := n) (e := 9) (os := os) (cur := cur) (ss := xs.map ByteArray.toList) (ts := (xs.map ByteArray.toList).mergeSort fun x y => decide (x ≤ y)) (by simp) hbase hb (by rw [hl]; exact h1) h2 h3
    rw [hl, bl_map] at ho
    refine ⟨rfl, ⟨hok, _, ?_, strFlat.reps (fun x => strFlat.M _ _ _ x) (sortB xs)⟩, ?_⟩
    · rw [sortB_len]; exact ho
    · exact Fr.of_grown (by
        have := grownBy_sorted (w := w) (g := g) (n := n) (os := os) ((xs.map ByteArray.toList).mergeSort fun x y => decide (x ≤ y)).toArray
        simpa [Value.ownBlock] using this)
end Go.Proofs.Ytepfhcimmbkilaa
/- Vault.Keys: the keys that have a number, rising. -/
namespace Go.Proofs.Ytepfhcimmbkilaa
open Go.RowKit
open Go.Proofs.YtepfhcimmbkilaaW.PrintWords

section
variable {P : Program} {ops : Array Oper} {rest : List Oper} {o : Oper} {a : Act} {Q : Exit → Act → World → Prop} {α : Type}
/-- append(v, x) where the box's number is written otherwise. -/
theorem Kd.R_appendN (d : Kd α) {w0 W : World} (nn : Nat) (hnn : W.heap.size = nn) (base : Nat) (hgd : o.guard = none) (s x : Operand) (t e : TypeId) (z : Value) (bytes : Nat)
    (ho : o.op = .call { callee := .builtin .append, args := #[s, x], argTypes := #[t, t] })
    (ht : P.underlying t = some (.slice e)) (hinfo : (P.info? e).map (fun i => (i.zero, i.size, i.bytes)) = some (some z, d.sz, bytes)) (hz : z.cells.size = d.sz) (hs0 : 0 < d.sz) (hb0 : 0 < bytes)
    (v : Value) (xs : List α) (p : α) (cs : List Value) (ok okp : Nat → Prop) (hs : a.eval s = v) (hx : a.eval x = .slice (some ⟨nn, 0, none⟩) 1 1) (hp : d.M W base okp p cs) (hokp : ∀ k, okp k → ok k ∧ some k ≠ v.ownBlock) (hfresh : ∀ k, W.heap.size ≤ k → ok k)
    (HO : d.R e W base ok v xs) (HB : Below base w0 W) (hbase : base ≤ W.heap.size) (hl : (xs.length + 1) * bytes ≤ 140737488355328)
    (h : ∀ v1 w1, d.R e w1 base ok v1 (xs ++ [p]) → Below base w0 w1 → W.grownBy w1 v.ownBlock → (v1.ownBlock = v.ownBlock ∨ ∃ b, v1.ownBlock = some b ∧ W.heap.size ≤ b) → wpList P ops Q rest (a.put o.dst v1) w1) :
    wpList P ops Q (o :: rest) a (W.alloc (.cells cs.toArray e)) := by
  subst hnn
  exact Kd.R_append d base hgd s x t e z bytes ho ht hinfo hz hs0 hb0 v xs p cs ok okp hs hx hp hokp hfresh HO HB hbase hl h
end
theorem nodup_lenV : ∀ (xs ys : List ByteArray), xs.Nodup → (∀ s ∈ xs, s ∈ ys) → xs.length ≤ ys.length := by
  intro xs
  induction xs with
  | nil => intro ys _ _; exact Nat.zero_le _
  | cons x xs ih =>
    intro ys hn hs
    obtain ⟨h1, h2⟩ := List.nodup_cons.1 hn
    have hx := hs x (List.mem_cons_self ..)
    have h3 := ih (ys.filter (fun y => decide (y ≠ x))) h2 (fun s hm => List.mem_filter.2 ⟨hs s (List.mem_cons_of_mem _ hm), decide_eq_true (fun e => h1 (by rw [← e]; exact hm))⟩)
    have h4 : (ys.filter (fun y => decide (y ≠ x))).length < ys.length := List.length_filter_lt_length_iff_exists.2 ⟨x, hx, by simp⟩
    rw [List.length_cons]
    omega
theorem foldl_noV (key : ByteArray) : ∀ (H : List HE) (c : CellD), (∀ e ∈ H, e.2.2.2.1 ≠ key) → H.foldl (cellStep key) c = c := by
  intro H
  induction H with
  | nil => intro c _; rfl
  | cons e H ih =>
    intro c h
    rw [List.foldl_cons, show cellStep key c e = c from by unfold cellStep; rw [cdec_false (h e (List.mem_cons_self ..))]; rfl]
    exact ih c (fun e' he' => h e' (List.mem_cons_of_mem _ he'))
theorem found_in {H : List HE} {key : ByteArray} (h : (cellOf H key).1 = true) : key ∈ H.map (·.2.2.2.1) := Classical.byContradiction fun hn => by
  have : cellOf H key = (false, 0) := foldl_noV key H _ (fun e he hk => hn (List.mem_map.2 ⟨e, he, hk⟩))
  rw [this] at h
  cases h
theorem found_len {H : List HE} {xs : List ByteArray} (h : xs.Nodup) (hx : ∀ s ∈ xs, (cellOf H s).1 = true) : xs.length ≤ H.length := by
  have := nodup_lenV xs (H.map (·.2.2.2.1)) h (fun s hs => found_in (hx s hs))
  rwa [List.length_map] at this
theorem rising_nodup {l : List ByteArray} (h : Rising l) : l.Nodup := by
  unfold List.Nodup
  unfold Rising at h
  exact h.imp (fun {a b} hab e => by subst e; exact List.lt_irrefl _ hab)
/-- The keys that have a number, rising. -/
structure KeysV (H : List HE) (ks : List ByteArray) : Prop where
  rise : Rising ks
  mem : ∀ s, s ∈ ks ↔ (cellOf H s).1 = true
theorem KeysV.len {H : List HE} {ks : List ByteArray} (h : KeysV H ks) : ks.length ≤ H.length := found_len (rising_nodup h.rise) (fun s hs => (h.mem s).1 hs)
theorem KeysV.one {H H' : List HE} {a b : List ByteArray} (h : KeysV H a) (h' : KeysV H' b) (he : ∀ k, cellOf H k = cellOf H' k) : a = b :=
  rising_one a b h.rise h'.rise (fun s => by rw [h.mem, h'.mem, he])
set_option maxRecDepth 100000 in
set_option maxHeartbeats 4000000 in
theorem vault_keys (g n : Nat) (S : Nat → Prop) (H : List HE) (w : World) (h : VaultRep w S g H n) (hHl : H.length ≤ 1000000000) :
    Calls Try.prog 29 #[.pointer (some ⟨g, 0, none⟩)] w fun r w' => ∃ v ks, r = .returned v ∧ strK.R 9 w' w.heap.size (fun b => w.heap.size ≤ b) v ks ∧ KeysV H ks ∧ Fr (fun _ => False) w w' := by
  obtain ⟨mc, ml, F, Lh, hV⟩ := h
  have v0 := hV.blk.cell 0
  simp only [List.getElem?_toArray, List.getElem?_cons_zero, List.getElem?_cons_succ] at v0
  have HCE := Lib.hid hV.cell
  have HMW := Lib.hid hV.cells.lt
  obtain ⟨w0, cnt0, hrange, hit0, hFr0, hsz0⟩ := hV.cells.range (t := 59) rfl
  have HI0 := Lib.hid hit0
  have HG0 := Lib.hid hFr0
  obtain ⟨q, hq⟩ : ∃ q, q = w.heap.size := ⟨_, rfl⟩
  rw [← hq] at hrange HI0
  have HQ := Lib.hid hq
  clear hV hit0 hFr0 hsz0 hq
  go_enter Try.func29, Try.ntmps29
  go_wp2_with fail
  go_loopw [3] (fun u wr => ∃ (xs : List ByteArray) (left : ByteArray → Prop) (cnt : Nat), MapIt strE cellV wr mc q F left cnt ∧ (∀ s, s ∈ xs ↔ (F s).isSome = true ∧ (cellOf H s).1 = true ∧ ¬ left s) ∧ xs.Nodup ∧ strK.R 9 wr w.heap.size (fun b => b ≠ mc ∧ b ≠ q) u xs ∧ Fr (fun _ => False) w wr) (fun _ wr => wr.rangeLeft mc q)
  case atStart => exact ⟨[], _, _, HI0.out, fun s => ⟨fun h => (by cases h), fun h => absurd h.1 h.2.2⟩, List.nodup_nil, Kd.R_nil _ _ _ _ _, HG0.out⟩
  case round =>
    obtain ⟨xs, left, cnt, hit, hxs, hnd, hR, hG⟩ := hrel
    have HG5 := Lib.hid hG
    have HXS := Lib.hid hxs
    have HND := Lib.hid hnd
    have HR := Lib.hid hR
    have HIT := Lib.hid hit
    clear hxs hnd hR hG
    rcases hit.next 0 with ⟨hno, hnext⟩ | ⟨a, c9, w1, cnt1, hok, hla, hfa, hnext, hit1, hlt1, hF1, hsz1, hen⟩
    · have HNO := Lib.hid hno
      clear hit hno
      go_wp2_with fail
      have hln := found_len HND.out (fun s hs => ((HXS.out s).1 hs).2.1)
      refine (sort_strs HR.out (by omega)).mono ?_
      rintro r W2 ⟨rfl, hR2, hF2⟩
      have HR2 := Lib.hid hR2
      have HG2 := Lib.hid (HG5.out.trans' hF2 (fun i hi h => by have := Kd.R_base HR.out i h.symm; omega))
      have HK := Lib.hid (show KeysV H (sortB xs) from ⟨sortB_rising HND.out, fun s => by
        rw [sortB_mem, HXS.out s]
        refine ⟨fun h => h.2.1, fun h => ⟨?_, h, HNO.out s⟩⟩
        have := HCE.out s
        cases hf : F s with
        | none => rw [hf] at this; rw [← this] at h; cases h
        | some c => rfl⟩)
      clear hR2 hF2 hln
      go_wp2_with fail
      go_ret
      exact ⟨_, _, rfl, Kd.R_mono (Kd.R_bound HR2.out) (fun b hb => hb.2.1), HK.out, HG2.out⟩
    · have hce : c9 = cellOf H a := by have := HCE.out a; rw [hfa] at this; exact this
      have HI1 := Lib.hid hit1
      have HG1 := Lib.hid (HG5.out.trans' hF1 (fun i hi h => by have h1 := HQ.out; omega))
      have HLA := Lib.hid hla
      have HFA := Lib.hid hfa
      have HLT := Lib.hid hlt1
      have HR1 := Lib.hid (Kd.R_step HR.out (fun b hb hl => hF1.block b hl hb.2))
      have HLN := Lib.hid (found_len HND.out (fun s hs => ((HXS.out s).1 hs).2.1))
      obtain ⟨f, y⟩ := c9
      have HCA := Lib.hid hce
      clear hit hla hfa hit1 hlt1 hF1 hsz1 hce
      replace hen : (Instr.entry (.pointer (some ⟨q, 0, none⟩))).run Try.prog w1 = .ok (.tuple #[.string a, .agg #[.bool f, .float .f64 y]]) w1 := hen
      replace hnext : (Instr.next (.pointer (some ⟨q, 0, none⟩)) false 0).run Try.prog wr = .ok (.tuple #[.bool true, .string a, .agg #[.bool f, .float .f64 y]]) w1 := hnext
      have HI2 := Lib.hid (HI1.out.fr ((Fr.refl (fun _ => False) w1).alloc (.cells #[.bool f, .float .f64 y] 53)) (fun h => h) (fun h => h))
      have HR2 := Lib.hid (Kd.R_alloc HR1.out (.cells #[.bool f, .float .f64 y] 53))
      have HG2 := Lib.hid (HG1.out.alloc (.cells #[.bool f, .float .f64 y] 53))
      cases f
      · go_wp2_with fail
        go_roundw
        case rel =>
          refine ⟨xs, _, _, HI2.out, fun s => ?_, HND.out, HR2.out, HG2.out⟩
          rw [HXS.out s]
          refine ⟨fun h => ⟨h.1, h.2.1, fun hl => h.2.2 hl.1⟩, fun h => ⟨h.1, h.2.1, fun hl => h.2.2 ⟨hl, fun e => ?_⟩⟩⟩
          subst e
          have h2 := h.2.1
          rw [← HCA.out] at h2
          cases h2
        case measure => rw [HI2.out.left_eq, HIT.out.left_eq]; exact HLT.out
      · go_wp2_with (at_builtin; refine Kd.R_appendN strK (w1.heap.size + 1) (by simp) w.heap.size rfl (.tmp 20) (.tmp 22) 43 9 _ 16 rfl Try.underlying43 info_str rfl (by decide) (by decide) u3 xs a (strCells a) (fun b => b ≠ mc ∧ b ≠ q) (fun _ => False) (by rfl) (by rfl) rfl (fun _ h => h.elim) (fun b hb => by have h1 := HI2.out.lt; have h2 := HQ.out; have h3 := HI2.out.isin.lt; omega) HR2.out (Below.refl _ _) HG2.out.size (by have := HLN.out; omega) ?_; intro v1 w2 hR3 hB2 hg2 hat2; have HR3 := Lib.hid hR3; have HG3 := Lib.hid hg2; clear hR3 hB2 hg2 hat2)
        go_roundw
        case rel =>
          refine ⟨xs ++ [a], _, _, HI2.out.fr (Fr.of_grown HG3.out) (fun h => (HR2.out.1 mc h.symm).1 rfl) (fun h => (HR2.out.1 q h.symm).2 rfl), fun s => ?_, ?_, HR3.out, HG2.out.trans' (Fr.of_grown HG3.out) (fun i hi h => by have := Kd.R_base HR2.out i h.symm; omega)⟩
          · by_cases hs : s = a
            · subst hs
              exact ⟨fun _ => ⟨by rw [HFA.out]; rfl, by rw [← HCA.out], fun h => h.2 rfl⟩, fun _ => by simp⟩
            · constructor
              · intro h
                rcases List.mem_append.1 h with h | h
                · have h' := (HXS.out s).1 h
                  exact ⟨h'.1, h'.2.1, fun hl => h'.2.2 hl.1⟩
                · exact absurd (List.mem_singleton.1 h) hs
              · intro h
                exact List.mem_append_left _ ((HXS.out s).2 ⟨h.1, h.2.1, fun hl => h.2.2 ⟨hl, hs⟩⟩)
          · refine List.nodup_append.2 ⟨HND.out, by simp, fun x hx y hy e => ?_⟩
            rw [List.mem_singleton.1 hy] at e
            rw [e] at hx
            exact ((HXS.out a).1 hx).2.2 HLA.out
        case measure =>
          rw [(HI2.out.fr (Fr.of_grown HG3.out) (fun h => (HR2.out.1 mc h.symm).1 rfl) (fun h => (HR2.out.1 q h.symm).2 rfl)).left_eq, HIT.out.left_eq]; exact HLT.out
end Go.Proofs.Ytepfhcimmbkilaa
