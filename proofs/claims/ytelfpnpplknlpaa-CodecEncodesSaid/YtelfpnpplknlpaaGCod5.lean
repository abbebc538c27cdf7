/- Texts of Cod, merged (5 of 27): Copy, Flat, Bi, CmdF, Recs, RecC. -/
import Derived.Test.YtelfpnpplknlpaaGCod1
import Derived.Test.YtelfpnpplknlpaaWWords
import Derived.Laws.CopyRow
import Derived.Test.YtelfpnpplknlpaaGCod4
set_option linter.unusedVariables false
set_option linter.unusedSimpArgs false
/- The builtin copy, of elements of any size: what lands in the target's cells. -/
namespace Go.Proofs.Ytelfpnpplknlpaa
open Go.RowKit
open Go.Proofs.YtelfpnpplknlpaaW.PrintWords
variable {P : Program}

theorem run_copy_any (w : World) (dT sT ty elem : TypeId) (g o dLen dCap : Nat) (a : Addr) (sLen sCap size : Nat) (cur : Array Value) (t : TypeId) (cs : List Value)
    (hu : P.underlying dT = some (.slice elem)) (hs : (P.info? elem).map (·.size) = some size)
    (hg : w.heap[g]? = some (.cells cur t (0, 0))) (hn : cs.length = Nat.min sLen dLen * size)
    (hsrc : ∀ j v, cs[j]? = some v → w.cell? (a.add j) = some v) (hfit : o + cs.length ≤ cur.size) (h1 : ∀ v ∈ cs, v.oneCell' = true) :
    (Builtin.copy_ #[dT, sT] ty #[.slice (some ⟨g, o, none⟩) dLen dCap, .slice (some a) sLen sCap]).run P w =
      .ok (goInt (Nat.min sLen dLen)) (w.setRow g (cur.toList.take o ++ cs ++ cur.toList.drop (o + cs.length)).toArray) := by
  have hl := run_loadCells_list (P := P) w a cs hsrc
  have hst := run_storeCells_at P g o t cs 0 cur w hg (by simpa using hfit) h1
  rw [hn] at hl
  cases hq : P.info? elem with
  | none => simp [hq] at hs
  | some i =>
    have hi : i.size = size := by simpa [hq] using hs
    simp [Builtin.copy_, run_underlying hu, Builtin.lenOf, Builtin.firstCells, sizeOf, typeInfo, hq, hi, hl, hst]
theorem Fr.setRow {S : Nat → Prop} {a b : World} (h : Fr S a b) {g : Nat} (hp : S g ∨ a.heap.size ≤ g) (cs : Array Value) : Fr S a (b.setRow g cs) :=
  h.trans' (S' := fun k => k = g) ⟨rfl, rfl, rfl, by simp, fun k _ hn => setRow_other b g k cs hn⟩ (fun i hi he => by subst he; rcases hp with hp | hp; exact hp; omega)

/-- copy(l, l[k:]) of one's own row: its head is what stood behind k. -/
theorem R_shift {α : Type} {d : Kd α} {e : Nat} {w : World} {base : Nat} {ok : Nat → Prop} {A : Option Addr} {n c : Nat} {xs : List α} (h : d.R e w base ok (.slice A n c) xs) {k : Nat} (hk : k < xs.length)
    (dT sT ty : TypeId) (hu : P.underlying dT = some (.slice e)) (hs : (P.info? e).map (·.size) = some d.sz) :
    ∃ w', (Builtin.copy_ #[dT, sT] ty #[.slice A n c, .slice (if c = k then A else A.map (·.add (k * d.sz))) (n - k) (c - k)]).run P w = .ok (.int .i64 ((n - k : Nat) : Int)) w' ∧
      d.R e w' base ok (.slice A (n - k) c) (xs.drop k) ∧ Fr (fun b => some b = (Value.slice A n c).ownBlock) w w' := by
  obtain ⟨h0, inner, ho, hr⟩ := h
  rcases ho.2 with ⟨hv, hn⟩ | ⟨g, cap, cur, hv, hb, hg, hnc, hcm, hcs, htake⟩
  · exfalso; omega
  · have hlen := ho.1
    injection hv with hA hn hc
    subst hA hn hc
    have hck : ¬ c = k := by omega
    rw [if_neg hck]
    have hsrc : ∀ j v, (inner.drop (k * d.sz))[j]? = some v → w.cell? ((⟨g, 0, none⟩ : Addr).add (k * d.sz) |>.add j) = some v := by
      intro j v hv
      rw [add_plain, add_at, blk_cell hg]
      rw [List.getElem?_drop, ← htake, List.getElem?_take] at hv
      split at hv
      · simpa using hv
      · cases hv
    have hone : ∀ v ∈ inner, v.oneCell' = true := by
      intro v hv
      obtain ⟨j, hj⟩ := List.getElem?_of_mem hv
      have hs0 : 0 < d.sz := by
        have h1 := (List.getElem?_eq_some_iff.1 hj).1
        rw [hlen] at h1
        exact Nat.pos_of_ne_zero (fun e => by rw [e] at h1; omega)
      have hjl := (List.getElem?_eq_some_iff.1 hj).1
      have hq : j / d.sz < xs.length := by rw [hlen] at hjl; exact Nat.div_lt_of_lt_mul (by rw [Nat.mul_comm]; exact hjl)
      have hp := hr.2 (j / d.sz) xs[j / d.sz] (List.getElem?_eq_getElem hq)
      refine d.K_one (d.K_of_M hp) v ?_
      apply List.mem_of_getElem? (i := j % d.sz)
      rw [List.getElem?_take, if_pos (Nat.mod_lt _ hs0), List.getElem?_drop, Nat.div_add_mod' j d.sz]
      exact hj
    have hdl : (inner.drop (k * d.sz)).length = (xs.length - k) * d.sz := by rw [List.length_drop, hlen, Nat.sub_mul]
    have hfit : 0 + (inner.drop (k * d.sz)).length ≤ cur.size := by
      rw [hdl, hcs, Nat.zero_add]; exact Nat.mul_le_mul_right _ (by omega)
    have hmin : Nat.min (xs.length - k) xs.length = xs.length - k := Nat.min_eq_left (by omega)
    have hrun := run_copy_any (P := P) w dT sT ty e g 0 xs.length c ((⟨g, 0, none⟩ : Addr).add (k * d.sz)) (xs.length - k) (c - k) d.sz cur e (inner.drop (k * d.sz)) hu hs hg (by rw [hdl, hmin]) hsrc hfit
      (fun v hv => hone v (List.mem_of_mem_drop hv))
    rw [hmin] at hrun
    refine ⟨_, hrun, ?_, (Fr.refl _ _).setRow (.inl (by simp [Value.ownBlock])) _⟩
    have hob : ∀ x y : Nat, (Value.slice (some (⟨g, 0, none⟩ : Addr)) x c).ownBlock = (Value.slice (some (⟨g, 0, none⟩ : Addr)) y c).ownBlock := fun _ _ => rfl
    refine ⟨fun j hj => h0 j hj, inner.drop (k * d.sz), ⟨by rw [hdl, List.length_drop], .inr ⟨g, c, _, by rw [List.length_drop], hb, setRow_heap w g cur _ e _ hg, by rw [List.length_drop]; omega, hcm, ?_, ?_⟩⟩, ?_⟩
    · simp only [List.size_toArray, List.length_append, List.length_take, List.length_drop, Array.length_toList, Nat.zero_add, Nat.zero_le, Nat.min_eq_left]
      rw [hlen]
      have : xs.length * d.sz - k * d.sz ≤ cur.size := by rw [← Nat.sub_mul]; rw [hdl, Nat.zero_add] at hfit; exact hfit
      omega
    · rw [List.length_drop]
      have e1 : (xs.length - k) * d.sz = (inner.drop (k * d.sz)).length := hdl.symm
      rw [e1]
      simp
    · have hr2 := Kd.reps_drop (m := k) hr
      refine hr2.imp_ (fun p cs hp => d.M_move (fun b hb => ?_) hp)
      exact setRow_other w g b _ (fun e => hb.2 (by simp [Value.ownBlock, e]))
/-- append(v, ys...): v is a row of one's own, ys' elements are read. -/
theorem R_rows_run {α : Type} (d : Kd α) {Rr : α → List Value → Prop} {W : World} (base : Nat) (t ty e : TypeId) (z : Value) (bytes : Nat)
    (ht : P.underlying t = some (.slice e)) (hinfo : (P.info? e).map (fun i => (i.zero, i.size, i.bytes)) = some (some z, d.sz, bytes)) (hz : z.cells.size = d.sz) (hs0 : 0 < d.sz) (hb0 : 0 < bytes)
    (v : Value) (xs ys : List α) (A : Option Addr) (m c : Nat) (ok okp : Nat → Prop)
    (HO : d.R e W base ok v xs) (HR : ReadsRow Rr d.sz W A m ys) (hKM : ∀ x cs, Rr x cs → d.M W base okp x cs) (hokp : ∀ k, okp k → ok k ∧ some k ≠ v.ownBlock) (hfresh : ∀ k, W.heap.size ≤ k → ok k)
    (hbase : base ≤ W.heap.size) (hl : (xs.length + m) * bytes ≤ 140737488355328) :
    ∃ v1 w1, (Builtin.append_ #[t, t] ty #[v, .slice A m c]).run P W = .ok v1 w1 ∧ d.R e w1 base ok v1 (xs ++ ys) ∧ W.grownBy w1 v.ownBlock ∧ (v1.ownBlock = v.ownBlock ∨ ∃ b, v1.ownBlock = some b ∧ W.heap.size ≤ b) := by
  obtain ⟨i0, hi, hzz⟩ := Option.map_eq_some_iff.1 hinfo
  simp only [Prod.mk.injEq] at hzz
  obtain ⟨hz0, hz1, hz2⟩ := hzz
  have hm : ys.length = m := HR.1
  have hlen : xs.length + m ≤ 140737488355328 := Nat.le_trans (Nat.le_mul_of_pos_right _ hb0) hl
  obtain ⟨hok, inner, hown, hr⟩ := HO
  rcases A with _ | ad
  · have h0 : m = 0 := by
      rcases Nat.eq_zero_or_pos m with h0 | h0
      · exact h0
      · obtain ⟨ad, h, _⟩ := HR.2.2 h0
        cases h
    subst h0
    obtain rfl : ys = [] := List.eq_nil_of_length_eq_zero hm
    refine ⟨v, W, ?_, by rw [List.append_nil]; exact ⟨hok, inner, hown, hr⟩, World.grownBy.refl W _, .inl rfl⟩
    rcases hown.2 with ⟨rfl, hn⟩ | ⟨g, cap, cur, rfl, _, _, hnc, _⟩
    · simp [Builtin.append_, run_underlying ht, sizeOf, typeInfo, hi, Builtin.lenOf, Builtin.firstCells]
    · simp [Builtin.append_, run_underlying ht, sizeOf, typeInfo, hi, Builtin.lenOf, Builtin.firstCells, hnc, storeCells]
  · obtain ⟨news, hnr, hnc⟩ := ReadsRow.inner_ HR
    have hnM : Reps (d.M W base okp) d.sz ys news := hnr.imp_ (fun p c hp => hKM p c hp)
    have hone : ∀ u ∈ news, u.oneCell' = true := by
      intro u hu
      obtain ⟨q, hq, rfl⟩ := List.mem_iff_getElem.1 hu
      have hql : q / d.sz < ys.length := by
        rw [Nat.div_lt_iff_lt_mul hs0]
        rw [← hnM.1]
        exact hq
      have hc := hnM.2 (q / d.sz) _ (List.getElem?_eq_getElem hql)
      refine d.K_one (d.K_of_M hc) _ ?_
      rw [List.mem_iff_getElem?]
      refine ⟨q % d.sz, ?_⟩
      rw [List.getElem?_take, if_pos (Nat.mod_lt _ hs0), List.getElem?_drop, Nat.mul_comm, Nat.div_add_mod, List.getElem?_eq_getElem hq]
    obtain ⟨v1, w1, hrun, h2, hg, _, hat⟩ := run_append_own_at (P := P) W base t ty e i0 z d.sz bytes ht hi hz0 hz1 hz2 hz hs0 v xs.length inner hown ad m c news (by rw [hnM.1, hm]) hnc hone (by simp only [maxLen]; omega) hl hbase
    have hat' : v1.ownBlock = v.ownBlock ∨ ∃ b, v1.ownBlock = some b ∧ W.heap.size ≤ b := by
      rcases hat with hat | hat
      · exact .inl hat
      · exact .inr ⟨_, hat, Nat.le_refl _⟩
    have hne : ∀ k, some k ≠ v.ownBlock → k < W.heap.size → some k ≠ v1.ownBlock := by
      intro k hk hlt
      rcases hat' with hat | ⟨b, hb, hle⟩
      · rw [hat]; exact hk
      · rw [hb]
        intro he
        injection he with he
        omega
    have step : ∀ {q : α} {c : List Value} {o : Nat → Prop}, d.M W base o q c → (∀ k, o k → ok k ∧ some k ≠ v.ownBlock) → d.M w1 base (fun k => ok k ∧ some k ≠ v1.ownBlock) q c := by
      intro q c o hq ho
      have h1 := d.M_move (w1 := w1) (fun k hk => hg.block k hk.2.2.1 (ho k hk.1).2) (d.M_bound hq)
      exact d.M_mono (fun k hk => ⟨(ho k hk.1).1, hne k (ho k hk.1).2 hk.2.2.1⟩) h1
    refine ⟨v1, w1, hrun, ⟨fun k hk => ?_, inner ++ news, by rw [List.length_append, hm]; exact h2, Kd.reps_append (hr.imp_ (fun _ _ hq => step hq (fun _ hk => hk))) (hnM.imp_ (fun _ _ hq => step hq hokp))⟩, hg, hat'⟩
    rcases hat' with hat | ⟨b, hb, hle⟩
    · exact hok k (hat ▸ hk)
    · rw [hb] at hk
      injection hk with hk
      exact hfresh k (by omega)
/-- An empty row, in new memory (the literal []T{}). -/
theorem R_empty {α : Type} (d : Kd α) (e : TypeId) (w : World) : d.R e (w.alloc (.cells #[] e)) w.heap.size (fun k => w.heap.size ≤ k) (.slice (some ⟨w.heap.size, 0, none⟩) 0 0) [] :=
  ⟨fun k hk => by simp [Value.ownBlock] at hk; omega, [], ⟨by simp, .inr ⟨w.heap.size, 0, #[], rfl, Nat.le_refl _, heap_alloc_new w _, Nat.le_refl _, Nat.zero_le _, by simp, by simp⟩⟩, Reps.none _ _⟩
end Go.Proofs.Ytelfpnpplknlpaa
/- Rows of elements of a fixed form: a whole block of them, read, owned, copied. No program in sight. -/
namespace Go.Proofs.Ytelfpnpplknlpaa
open Go.RowKit
open Go.Proofs.YtelfpnpplknlpaaW.PrintWords

/-- The cells of an element are a function of it. -/
structure Flat {α : Type} (d : Kd α) (enc : α → List Value) : Prop where
  len : ∀ x, (enc x).length = d.sz
  K : ∀ {w x c}, d.K w x c → c = enc x
  M : ∀ w base ok x, d.M w base ok x (enc x)
namespace Flat
variable {α : Type} {d : Kd α} {enc : α → List Value} {P : Program}
theorem flen (h : Flat d enc) (L : List α) : (L.flatMap enc).length = L.length * d.sz := by
  induction L with
  | nil => simp
  | cons a l ih => rw [List.flatMap_cons, List.length_append, ih, h.len, List.length_cons, Nat.add_mul, Nat.one_mul, Nat.add_comm]
theorem one (h : Flat d enc) (L : List α) : ∀ v ∈ L.flatMap enc, v.oneCell' = true := fun v hv => by
  obtain ⟨x, _, hx⟩ := List.mem_flatMap.1 hv
  exact d.K_one (d.K_of_M (h.M ⟨#[], fun _ _ => 0, 0, default, default⟩ 0 (fun _ => True) x)) v hx
theorem segs (h : Flat d enc) : ∀ (L : List α) (j : Nat) (p : α), L[j]? = some p → ((L.flatMap enc).drop (j * d.sz)).take d.sz = enc p
  | [], j, p, hj => by simp at hj
  | a :: l, 0, p, hj => by
    simp at hj
    subst hj
    rw [List.flatMap_cons, Nat.zero_mul, List.drop_zero, ← h.len a, List.take_left]
  | a :: l, j + 1, p, hj => by
    rw [List.flatMap_cons, Nat.add_mul, Nat.one_mul, Nat.add_comm, ← List.drop_drop, ← h.len a, List.drop_left, h.len a]
    exact segs h l j p (by simpa using hj)
theorem reps (h : Flat d enc) {R : α → List Value → Prop} (hR : ∀ x, R x (enc x)) (L : List α) : Reps R d.sz L (L.flatMap enc) := ⟨h.flen L, fun j p hj => by rw [h.segs L j p hj]; exact hR p⟩
theorem of_reps (h : Flat d enc) : ∀ (L : List α) (inner : List Value), Reps (fun p c => c = enc p) d.sz L inner → inner = L.flatMap enc
  | [], inner, hr => by have := hr.1; simp at this; rw [this]; rfl
  | a :: l, inner, hr => by
    have h0 := hr.2 0 a rfl
    simp only [Nat.zero_mul, List.drop_zero] at h0
    have h1 := Kd.reps_drop (m := 1) hr
    simp only [List.drop_succ_cons, List.drop_zero, Nat.one_mul] at h1
    rw [List.flatMap_cons, ← of_reps h l _ h1, ← h0, List.take_append_drop]
theorem blk_R (h : Flat d enc) {w : World} {g : Nat} {e : TypeId} {L : List α} (hB : Blk w g e (L.flatMap enc).toArray) {base : Nat} (hb : base ≤ g) {ok : Nat → Prop} (hok : ok g) (hl : L.length ≤ 9223372036854775807) :
    d.R e w base ok (.slice (some ⟨g, 0, none⟩) L.length L.length) L :=
  ⟨fun k hk => by simp [Value.ownBlock] at hk; rw [← hk]; exact hok, L.flatMap enc, ⟨h.flen L, .inr ⟨g, L.length, _, rfl, hb, hB, Nat.le_refl _, by simp [maxLen]; omega, by simp [h.flen L], by rw [← h.flen L]; exact List.take_length⟩⟩, h.reps (fun x => h.M _ _ _ x) L⟩
theorem blk_C (h : Flat d enc) {w : World} {g : Nat} {e : TypeId} {L : List α} (hB : Blk w g e (L.flatMap enc).toArray) (hl : L.length ≤ 9223372036854775807) : d.C w (some ⟨g, 0, none⟩) L.length L :=
  (Kd.R_reads' (h.blk_R hB (Nat.zero_le g) (ok := fun _ => True) trivial hl)).2.2
theorem src (h : Flat d enc) {w : World} {ad : Addr} {n : Nat} {L : List α} (hC : d.C w (some ad) n L) : ∀ j u, (L.flatMap enc)[j]? = some u → w.cell? (ad.add j) = some u := by
  obtain ⟨inner, hr, hc⟩ := ReadsRow.inner_ hC
  rw [← h.of_reps L inner (hr.imp_ (fun p c hp => h.K hp))]
  exact hc
/-- copy(v, ys), v a whole block of as many elements. -/
theorem copy_all (h : Flat d enc) {w : World} {g : Nat} {e : TypeId} {cur : Array Value} (hB : Blk w g e cur) {n : Nat} (hcur : cur.size = n * d.sz) {A : Option Addr} {c : Nat} {L : List α} (hC : d.C w A n L) (dT sT ty : TypeId) (hu : P.underlying dT = some (.slice e)) (hs : (P.info? e).map (·.size) = some d.sz) :
    ∃ w', (Builtin.copy_ #[dT, sT] ty #[.slice (some ⟨g, 0, none⟩) n n, .slice A n c]).run P w = .ok (.int .i64 (n : Int)) w' ∧ Blk w' g e (L.flatMap enc).toArray ∧ Fr (· = g) w w' := by
  have hl : L.length = n := hC.1
  have hfl := h.flen L
  rw [hl] at hfl
  rcases A with _ | ad
  · have h0 : n = 0 := by
      rcases Nat.eq_zero_or_pos n with h0 | h0
      · exact h0
      · obtain ⟨ad, he, _⟩ := hC.2.2 h0
        cases he
    subst h0
    have hL : L = [] := List.eq_nil_of_length_eq_zero hl
    subst hL
    have hcu : cur = #[] := Array.eq_empty_of_size_eq_zero (by rw [hcur, Nat.zero_mul])
    subst hcu
    refine ⟨w, ?_, by simpa using hB, Fr.refl _ _⟩
    cases hq : P.info? e with
    | none => simp [hq] at hs
    | some i => simp [Builtin.copy_, run_underlying hu, Builtin.lenOf, Builtin.firstCells, sizeOf, typeInfo, hq, storeCells, goInt]
  · have hrun := run_copy_any (P := P) w dT sT ty e g 0 n n ad n c d.sz cur e (L.flatMap enc) hu hs hB (by rw [hfl]; simp) (h.src hC) (by rw [hfl, hcur]; omega) (h.one L)
    rw [show Nat.min n n = n from Nat.min_self n] at hrun
    refine ⟨_, hrun, ?_, (Fr.refl (fun x => x = g) w).setRow (.inl rfl) _⟩
    have hr := setRow_heap w g cur (cur.toList.take 0 ++ L.flatMap enc ++ cur.toList.drop (0 + (L.flatMap enc).length)).toArray e (0, 0) hB
    have he : (cur.toList.take 0 ++ L.flatMap enc ++ cur.toList.drop (0 + (L.flatMap enc).length)).toArray = (L.flatMap enc).toArray := by
      rw [List.take_zero, List.nil_append, Nat.zero_add, hfl, List.drop_of_length_le (by rw [Array.length_toList, hcur]; exact Nat.le_refl _), List.append_nil]
    rw [he] at hr ⊢
    exact hr
end Flat
end Go.Proofs.Ytelfpnpplknlpaa
/- The builtins copy, append and clear, run at one operation. No program in sight. -/
namespace Go.Proofs.Ytelfpnpplknlpaa
open Go.RowKit
open Go.Proofs.YtelfpnpplknlpaaW.PrintWords

section
variable {P : Program} {ops : Array Oper} {rest : List Oper} {o : Oper} {a : Act} {W w1 : World} {K : Act → World → Prop} {Q : Exit → Act → World → Prop} {E : Prop}
theorem run_builtin {b : Builtin} {ag : Array Operand} {ts : Array TypeId} {v : Value} (ho : o.op = .call { callee := .builtin b, args := ag, argTypes := ts })
    (hr : ∀ cs, (builtin b ts o.type cs (ag.map a.eval)).run P W = .ok (.value v) w1) : (execOp a.eval o).run P W = .ok (.value v) w1 := by
  unfold execOp
  simp only [ho, resolve, Sem.run_bind, Sem.run_pure, Result.andThen_ok, invoke]
  exact hr _
theorem wpl_builtin (hgd : o.guard = none) {b : Builtin} {ag : Array Operand} {ts : Array TypeId} {v : Value} (ho : o.op = .call { callee := .builtin b, args := ag, argTypes := ts })
    (hr : ∀ cs, (builtin b ts o.type cs (ag.map a.eval)).run P W = .ok (.value v) w1) (h : wpList P ops Q rest (a.put o.dst v) w1) : wpList P ops Q (o :: rest) a W :=
  Kd.event_run hgd (run_builtin ho hr) h
theorem step_builtin (hw : Region.wanted o (yielded ops a.tmps) = true) {b : Builtin} {ag : Array Operand} {ts : Array TypeId} {v : Value} (ho : o.op = .call { callee := .builtin b, args := ag, argTypes := ts })
    (hr : ∀ cs, (builtin b ts o.type cs (ag.map a.eval)).run P W = .ok (.value v) w1) (h : K (a.put o.dst v) w1) : if Region.wanted o (yielded ops a.tmps) = true then Oper.wp P o a W K Q else E := by
  rw [if_pos hw]
  unfold Oper.wp
  rw [run_builtin ho hr]
  exact h
theorem step_builtin2 (hw : Region.wanted o (yielded ops a.tmps) = true) {b : Builtin} {x y : Operand} {ts : Array TypeId} {v vx vy : Value} (ho : o.op = .call { callee := .builtin b, args := #[x, y], argTypes := ts })
    (hx : a.eval x = vx) (hy : a.eval y = vy) (hr : ∀ cs, (builtin b ts o.type cs #[vx, vy]).run P W = .ok (.value v) w1) (h : K (a.put o.dst v) w1) : if Region.wanted o (yielded ops a.tmps) = true then Oper.wp P o a W K Q else E :=
  step_builtin hw ho (fun cs => by simp only [List.map_toArray, List.map_cons, List.map_nil, hx, hy]; exact hr cs) h
theorem wpl_builtin2 (hgd : o.guard = none) {b : Builtin} {x y : Operand} {ts : Array TypeId} {v vx vy : Value} (ho : o.op = .call { callee := .builtin b, args := #[x, y], argTypes := ts })
    (hx : a.eval x = vx) (hy : a.eval y = vy) (hr : ∀ cs, (builtin b ts o.type cs #[vx, vy]).run P W = .ok (.value v) w1) (h : wpList P ops Q rest (a.put o.dst v) w1) : wpList P ops Q (o :: rest) a W :=
  wpl_builtin hgd ho (fun cs => by simp only [List.map_toArray, List.map_cons, List.map_nil, hx, hy]; exact hr cs) h
theorem bi_clear {ts : Array TypeId} {t : TypeId} {ag : Array Value} {v : Value} (hr : (Builtin.clear_ ts t ag).run P W = .ok v w1) : ∀ cs, (builtin .clear ts t cs ag).run P W = .ok (.value v) w1 := by
  intro cs
  show (do pure (.value (← Builtin.clear_ ts t ag)) : Sem Next).run P W = _
  simp [hr]
theorem bi_copy {ts : Array TypeId} {t : TypeId} {ag : Array Value} {v : Value} (hr : (Builtin.copy_ ts t ag).run P W = .ok v w1) : ∀ cs, (builtin .copy ts t cs ag).run P W = .ok (.value v) w1 := by
  intro cs
  show (do pure (.value (← Builtin.copy_ ts t ag)) : Sem Next).run P W = _
  simp [hr]
theorem bi_append {ts : Array TypeId} {t : TypeId} {ag : Array Value} {v : Value} (hr : (Builtin.append_ ts t ag).run P W = .ok v w1) : ∀ cs, (builtin .append ts t cs ag).run P W = .ok (.value v) w1 := by
  intro cs
  show (do pure (.value (← Builtin.append_ ts t ag)) : Sem Next).run P W = _
  simp [hr]
end
end Go.Proofs.Ytelfpnpplknlpaa
/- Ids and commands: elements of a fixed form. -/
namespace Go.Proofs.Ytelfpnpplknlpaa
open Go.RowKit
open Go.Proofs.YtelfpnpplknlpaaW.PrintWords

abbrev idCells (a : Int × Int) : List Value := [.int .i64 a.1, .int .i64 a.2]
abbrev cmdCells (a : Cmd) : List Value := [.int .i64 a.1, .string a.2.1, .float .f64 a.2.2]
theorem idFlat : Flat idK idCells := ⟨fun _ => rfl, fun h => idK_K h, fun w b ok x => idK_M w b ok x⟩
theorem cmdFlat : Flat cmdK cmdCells := ⟨fun _ => rfl, fun h => cmdK_K h, fun w b ok x => cmdK_M w b ok x⟩
theorem info_cmd : (Try.prog.info? 58).map (fun i => (i.zero, i.size, i.bytes)) = some (some (.agg #[.int .i64 0, .string ByteArray.empty, .float .f64 0]), cmdK.sz, 32) := by kernel_rfl
/-- append(v, ys...) of flat elements: v an empty row of one's own. -/
theorem app_flat {P : Program} {α : Type} {d : Kd α} {enc : α → List Value} (hf : Flat d enc) {W : World} {base n c : Nat} {e : TypeId} {ok : Nat → Prop} {A0 A : Option Addr} {c0 : Nat} {xs : List α} (t ty : TypeId) (z : Value) (bytes : Nat)
    (ht : P.underlying t = some (.slice e)) (hinfo : (P.info? e).map (fun i => (i.zero, i.size, i.bytes)) = some (some z, d.sz, bytes)) (hz : z.cells.size = d.sz) (hs0 : 0 < d.sz) (hb0 : 0 < bytes)
    (hR : d.R e W base ok (.slice A0 0 c0) []) (hC : d.C W A n xs) (hfresh : ∀ k, W.heap.size ≤ k → ok k) (hbase : base ≤ W.heap.size) (hl : n * bytes ≤ 140737488355328) :
    ∃ A1 c1 w1, (Builtin.append_ #[t, t] ty #[.slice A0 0 c0, .slice A n c]).run P W = .ok (.slice A1 n c1) w1 ∧ d.R e w1 base ok (.slice A1 n c1) xs ∧ W.grownBy w1 (Value.slice A0 0 c0).ownBlock := by
  obtain ⟨v1, w1, hr, hR1, hg, _⟩ := R_rows_run (P := P) d base t ty e z bytes ht hinfo hz hs0 hb0 (.slice A0 0 c0) [] xs A n c ok (fun _ => False) hR hC (fun x cs h => by rw [hf.K h]; exact hf.M _ _ _ _) (fun _ h => h.elim) hfresh hbase (by simpa using hl)
  obtain ⟨A3, c3, rfl⟩ := Kd.R_slice hR1
  rw [List.nil_append] at hR1
  rw [List.nil_append] at hr
  rw [show xs.length = n from hC.1] at hr hR1
  exact ⟨A3, c3, w1, hr, hR1, hg⟩
end Go.Proofs.Ytelfpnpplknlpaa
/- Records: their cells; which are the same; a copy of one. -/
namespace Go.Proofs.Ytelfpnpplknlpaa
open Go.RowKit
open Go.Proofs.YtelfpnpplknlpaaW.PrintWords

abbrev Rec := (Int × Int) × Int × List (Int × Int) × List Cmd
def recK : Kd Rec := Kd.pair idK (Kd.pair (Kd.int .i64) (Kd.pair (Kd.slice 28 idK) (Kd.slice 58 cmdK)))
abbrev recCells (r : Rec) (Ad Ab : Option Addr) (cd cb : Nat) : List Value := [.int .i64 r.1.1, .int .i64 r.1.2, .int .i64 r.2.1, .slice Ad r.2.2.1.length cd, .slice Ab r.2.2.2.length cb]
abbrev recV (r : Rec) (Ad Ab : Option Addr) (cd cb : Nat) : Value := .agg #[.int .i64 r.1.1, .int .i64 r.1.2, .int .i64 r.2.1, .slice Ad r.2.2.1.length cd, .slice Ab r.2.2.2.length cb]
/-- The record's lists are read there. -/
structure RecAt (w : World) (r : Rec) (Ad Ab : Option Addr) (cd cb : Nat) : Prop where
  ld : r.2.2.1.length ≤ cd
  lb : r.2.2.2.length ≤ cb
  deps : idK.C w Ad r.2.2.1.length r.2.2.1
  batch : cmdK.C w Ab r.2.2.2.length r.2.2.2
theorem RecAt.fr {w w' : World} {r : Rec} {Ad Ab : Option Addr} {cd cb : Nat} (h : RecAt w r Ad Ab cd cb) (hF : Fr (fun _ => False) w w') : RecAt w' r Ad Ab cd cb :=
  ⟨h.ld, h.lb, Kd.C_below h.deps (hF.below (fun _ _ h => h)), Kd.C_below h.batch (hF.below (fun _ _ h => h))⟩
theorem recK_K {w : World} {r : Rec} {c : List Value} (h : recK.K w r c) : ∃ Ad Ab cd cb, c = recCells r Ad Ab cd cb ∧ RecAt w r Ad Ab cd cb := by
  obtain ⟨c0, c1, rfl, h0, c2, c3, rfl, h1, c4, c5, rfl, ⟨Ad, cd, rfl, hd, hD⟩, ⟨Ab, cb, rfl, hb, hB⟩⟩ := h
  rw [idK_K h0, show c2 = [.int .i64 r.2.1] from h1]
  exact ⟨Ad, Ab, cd, cb, rfl, hd, hb, hD, hB⟩
theorem recK_M {w : World} {base : Nat} {ok : Nat → Prop} {r : Rec} {Ad Ab : Option Addr} {cd cb : Nat} (hD : idK.R 28 w base ok (.slice Ad r.2.2.1.length cd) r.2.2.1) (hB : cmdK.R 58 w base ok (.slice Ab r.2.2.2.length cb) r.2.2.2) :
    recK.M w base ok r (recCells r Ad Ab cd cb) :=
  ⟨idCells r.1, [.int .i64 r.2.1, .slice Ad r.2.2.1.length cd, .slice Ab r.2.2.2.length cb], rfl, idK_M _ _ _ _, [.int .i64 r.2.1], [.slice Ad r.2.2.1.length cd, .slice Ab r.2.2.2.length cb], rfl, rfl, [.slice Ad r.2.2.1.length cd], [.slice Ab r.2.2.2.length cb], rfl, ⟨_, rfl, hD⟩, ⟨_, rfl, hB⟩⟩
def rcx (L : List Rec) (i : Nat) : Rec := L.getD i ((0, 0), 0, [], [])
theorem rcx_eq {L : List Rec} {i : Nat} (h : i < L.length) : rcx L i = L[i] := by unfold rcx; rw [List.getD_eq_getElem?_getD, List.getElem?_eq_getElem h]; rfl
theorem rcx_get {L : List Rec} {i : Nat} (h : i < L.length) : L[i]? = some (rcx L i) := by rw [rcx_eq h, List.getElem?_eq_getElem h]
theorem rcx_mem {L : List Rec} {i : Nat} (h : i < L.length) : rcx L i ∈ L := by rw [rcx_eq h]; exact List.getElem_mem h
theorem recs_at {w : World} {A : Option Addr} {n : Nat} {L : List Rec} (h : recK.C w A n L) {i : Nat} (hi : i < n) :
    ∃ b off Ad Ab cd cb, A = some ⟨b, off, none⟩ ∧ RecAt w (rcx L i) Ad Ab cd cb ∧ w.cell? ⟨b, off + i * 5, none⟩ = some (.int .i64 (rcx L i).1.1) ∧ w.cell? ⟨b, off + i * 5 + 1, none⟩ = some (.int .i64 (rcx L i).1.2) ∧
      w.cell? ⟨b, off + i * 5 + 2, none⟩ = some (.int .i64 (rcx L i).2.1) ∧ w.cell? ⟨b, off + i * 5 + 3, none⟩ = some (.slice Ad (rcx L i).2.2.1.length cd) ∧ w.cell? ⟨b, off + i * 5 + 4, none⟩ = some (.slice Ab (rcx L i).2.2.2.length cb) := by
  obtain ⟨b, off, c, hi', hA, hc, hk, hcell⟩ := C_at h (by decide) hi
  rw [← rcx_eq hi'] at hk
  obtain ⟨Ad, Ab, cd, cb, rfl, hr⟩ := recK_K hk
  have hs : recK.sz = 5 := rfl
  rw [hs] at hcell
  exact ⟨b, off, Ad, Ab, cd, cb, hA, hr, hcell 0 _ rfl, hcell 1 _ rfl, hcell 2 _ rfl, hcell 3 _ rfl, hcell 4 _ rfl⟩
def RecOk (r : Rec) : Prop := IdOk r.1 ∧ (Lit.int .i64 r.2.1).wf = true ∧ (∀ x ∈ r.2.2.1, IdOk x) ∧ ∀ x ∈ r.2.2.2, CmdOk x
def recS (r r' : Rec) : Prop := r.1 = r'.1 ∧ r.2.1 = r'.2.1 ∧ r.2.2.1 = r'.2.2.1 ∧ cmdsS r.2.2.2 r'.2.2.2
theorem recS_refl (r : Rec) : recS r r := ⟨rfl, rfl, rfl, cmdsS_refl _⟩
set_option maxRecDepth 100000 in
set_option maxHeartbeats 2000000 in
theorem ref_rec (r r' : Rec) (Ad Ab Ad' Ab' : Option Addr) (cd cb cd' cb' : Nat) (w : World) (h : RecAt w r Ad Ab cd cb) (h' : RecAt w r' Ad' Ab' cd' cb')
    (s1 : r.2.2.1.length ≤ 9223372036854775807) (s2 : r.2.2.2.length ≤ 9223372036854775807) (s1' : r'.2.2.1.length ≤ 9223372036854775807) (s2' : r'.2.2.2.length ≤ 9223372036854775807) (hL : ∀ x ∈ r.2.2.2, CmdOk x) (hL' : ∀ x ∈ r'.2.2.2, CmdOk x) :
    Calls Try.prog 11 #[recV r Ad Ab cd cb, recV r' Ad' Ab' cd' cb'] w fun e w' => e = .returned (.bool (cdec (recS r r'))) ∧ Fr (fun _ => False) w w' := by
  obtain ⟨⟨i1, i2⟩, q, D, B⟩ := r
  obtain ⟨⟨i1', i2'⟩, q', D', B'⟩ := r'
  have HH := Lib.hid h
  have HH' := Lib.hid h'
  have HO := Lib.hid hL
  have HO' := Lib.hid hL'
  have hF : Fr (fun _ => False) w _ := ((Fr.refl (fun _ => False) w).alloc (.cells #[.int .i64 i1, .int .i64 i2, .int .i64 q, .slice Ad D.length cd, .slice Ab B.length cb] 32)).alloc (.cells #[.int .i64 i1', .int .i64 i2', .int .i64 q', .slice Ad' D'.length cd', .slice Ab' B'.length cb'] 32)
  have HF := Lib.hid hF
  have he := fun w => eqId i1 i2 i1' i2' w
  clear h h' hL hL' hF
  simp only at s1 s2 s1' s2'
  by_cases h1 : ((i1, i2) : Int × Int) = (i1', i2')
  · rw [decide_eq_true h1] at he
    by_cases h2 : q = q'
    · have t2 : (q == q') = true := by simp [h2]
      have X := Lib.hid h1
      have Y := Lib.hid h2
      clear h1 h2
      go_enter Try.func11, Try.ntmps11
      go_wp2_with fail
      refine (ids_same Ad Ad' _ cd _ cd' D D' _ (HH.out.fr HF.out).deps (HH'.out.fr HF.out).deps (Nat.le_trans s1 (by omega)) (Nat.le_trans s1' (by omega))).mono ?_
      rintro e w1 ⟨rfl, hF1⟩
      by_cases h3 : D = D'
      · rw [decide_eq_true h3]
        have Z := Lib.hid h3
        clear h3
        have x3 := (((Blk.new w 32 #[.int .i64 i1, .int .i64 i2, .int .i64 q, .slice Ad D.length cd, .slice Ab B.length cb]).alloc (.cells #[.int .i64 i1', .int .i64 i2', .int .i64 q', .slice Ad' D'.length cd', .slice Ab' B'.length cb'] 32)).fr hF1 (fun h => h)).cell 4
        have y3 := ((Blk.new (w.alloc (.cells #[.int .i64 i1, .int .i64 i2, .int .i64 q, .slice Ad D.length cd, .slice Ab B.length cb] 32)) 32 #[.int .i64 i1', .int .i64 i2', .int .i64 q', .slice Ad' D'.length cd', .slice Ab' B'.length cb']).fr hF1 (fun h => h)).cell 4
        rw [World.size_alloc] at y3
        simp only [List.getElem?_toArray, List.getElem?_cons_zero, List.getElem?_cons_succ] at x3 y3
        replace HF := Lib.hid (HF.out.trans hF1)
        clear hF1
        go_wp2_with fail
        refine (ref_cmds Ab Ab' _ cb _ cb' B B' _ (HH.out.fr HF.out).batch (HH'.out.fr HF.out).batch s2 s2' HO.out HO'.out).mono ?_
        rintro e w2 ⟨rfl, hF1⟩
        have hd : cdec (recS ((i1, i2), q, D, B) ((i1', i2'), q', D', B')) = cdec (cmdsS B B') := by
          by_cases h4 : cmdsS B B'
          · rw [cdec_true h4, cdec_true ⟨X.out, Y.out, Z.out, h4⟩]
          · rw [cdec_false h4, cdec_false fun h => h4 h.2.2.2]
        have HD := Lib.hid hd
        replace HF := Lib.hid (HF.out.trans hF1)
        clear hF1 hd x3 y3
        go_wp2_with fail
        go_ret
        exact ⟨ret_bool HD.out.symm, HF.out⟩
      · rw [decide_eq_false h3]
        have HD := Lib.hid (cdec_false (show ¬ recS ((i1, i2), q, D, B) ((i1', i2'), q', D', B') from fun h => h3 h.2.2.1))
        replace HF := Lib.hid (HF.out.trans hF1)
        clear h3 hF1
        go_wp2_with fail
        go_ret
        exact ⟨ret_bool HD.out.symm, HF.out⟩
    · have t2 : (q == q') = false := by simp [h2]
      rw [cdec_false (show ¬ recS ((i1, i2), q, D, B) ((i1', i2'), q', D', B') from fun h => h2 h.2.1)]
      clear h1 h2
      go_enter Try.func11, Try.ntmps11
      go_wp2_with fail
      go_ret
      exact ⟨rfl, HF.out⟩
  · rw [decide_eq_false h1] at he
    rw [cdec_false (show ¬ recS ((i1, i2), q, D, B) ((i1', i2'), q', D', B') from fun h => h1 h.1)]
    clear h1
    go_enter Try.func11, Try.ntmps11
    go_wp2_with fail
    go_ret
    exact ⟨rfl, HF.out⟩
end Go.Proofs.Ytelfpnpplknlpaa
/- A copy of a record: the same, in new memory. -/
namespace Go.Proofs.Ytelfpnpplknlpaa
open Go.RowKit
open Go.Proofs.YtelfpnpplknlpaaW.PrintWords

theorem make_ids (n : Nat) (hn : n ≤ 1000000) (W : World) : (Instr.makeSlice 29 (.int .i64 (n : Int)) (.int .i64 (n : Int))).run Try.prog W = .ok (.slice (some ⟨W.heap.size, 0, none⟩) n n) (W.alloc (.cells (madeCells #[.int .i64 0, .int .i64 0] (n * 2)) 28)) := by
  obtain ⟨i0, hi, hz0, hz1, hz2⟩ := info_parts info_id
  have := run_make (P := Try.prog) (w := W) 29 28 i0 _ Try.underlying29 hi hz0 .i64 .i64 (n : Int) (n : Int) (by omega) (by omega) (by rw [hz2]; omega) (by omega)
  rw [hz1, show idK.sz = 2 from rfl] at this
  simpa [Value.cells] using this
theorem make_cmds (n : Nat) (hn : n ≤ 1000000) (W : World) : (Instr.makeSlice 30 (.int .i64 (n : Int)) (.int .i64 (n : Int))).run Try.prog W = .ok (.slice (some ⟨W.heap.size, 0, none⟩) n n) (W.alloc (.cells (madeCells #[.int .i64 0, .string ByteArray.empty, .float .f64 0] (n * 3)) 58)) := by
  obtain ⟨i0, hi, hz0, hz1, hz2⟩ := info_parts info_cmd
  have := run_make (P := Try.prog) (w := W) 30 58 i0 _ Try.underlying30 hi hz0 .i64 .i64 (n : Int) (n : Int) (by omega) (by omega) (by rw [hz2]; omega) (by omega)
  rw [hz1, show cmdK.sz = 3 from rfl] at this
  simpa [Value.cells] using this
/-- A record is returned whose lists lie in new memory. -/
def NewRec (w : World) (r : Rec) (e : Ending) (w' : World) : Prop := ∃ gd gb, e = .returned (recV r (some ⟨gd, 0, none⟩) (some ⟨gb, 0, none⟩) r.2.2.1.length r.2.2.2.length) ∧
  w.heap.size ≤ gd ∧ w.heap.size ≤ gb ∧ gd ≠ gb ∧ Blk w' gd 28 (r.2.2.1.flatMap idCells).toArray ∧ Blk w' gb 58 (r.2.2.2.flatMap cmdCells).toArray ∧ Fr (fun _ => False) w w'
theorem set5 {w : World} {g : Nat} {t : TypeId} {a0 a1 a2 a3 a4 v0 v1 v2 v3 v4 : Value} (h : Blk w g t #[a0, a1, a2, a3, a4]) :
    Blk (((((w.setCell ⟨g, 0, none⟩ v0).setCell ⟨g, 1, none⟩ v1).setCell ⟨g, 2, none⟩ v2).setCell ⟨g, 3, none⟩ v3).setCell ⟨g, 4, none⟩ v4) g t #[v0, v1, v2, v3, v4] :=
  ((((h.set_ 0 v0).set_ 1 v1).set_ 2 v2).set_ 3 v3).set_ 4 v4
theorem leaf3 {w1 : World} {c1 c2 c3 : Array Value} {t1 t2 t3 : TypeId} {Q : World → Prop} (h : ∀ W, Blk W w1.heap.size t1 c1 → Blk W (w1.heap.size + 1) t2 c2 → Blk W (w1.heap.size + 1 + 1) t3 c3 → Fr (fun _ => False) w1 W → Q W) :
    Q (((w1.alloc (.cells c1 t1)).alloc (.cells c2 t2)).alloc (.cells c3 t3)).drew := by
  refine h _ (((Blk.new _ _ _).alloc _).alloc _).drew ?_ ?_ ((((Fr.refl _ _).alloc _).alloc _).alloc _).drew
  · have := Blk.new (w1.alloc (.cells c1 t1)) t2 c2
    rw [World.size_alloc] at this
    exact (this.alloc _).drew
  · have := Blk.new ((w1.alloc (.cells c1 t1)).alloc (.cells c2 t2)) t3 c3
    rw [World.size_alloc, World.size_alloc] at this
    exact this.drew
end Go.Proofs.Ytelfpnpplknlpaa
