/- The reader's values and memory: what they mean in a world. No condition. -/
import Derived.Test.YthmighgfefjcmaaEngine
namespace Go.Proofs.Ythmighgfefjcmaa.X
open Go.RowKit

mutual
theorem den_congr (β β' : Nat → Nat) : ∀ v, (∀ j, j ∈ refs v → β' j = β j) → den β' v = den β v
  | .c _, _ => by simp [den]
  | .v _, _ => by simp [den]
  | .p j o, h => by simp only [den]; rw [h j (by simp [refs])]
  | .sl j o n cap, h => by simp only [den]; rw [h j (by simp [refs])]
  | .s j c n, h => by simp only [den]; rw [h j (by simp [refs]), h c (by simp [refs])]
  | .m j, h => by simp only [den]; rw [h j (by simp [refs])]
  | .f g xs ys, h => by
    simp only [den]
    rw [denL_congr β β' xs (fun j hj => h j (List.mem_append_left _ hj)), denL_congr β β' ys (fun j hj => h j (List.mem_append_right _ hj))]
  | .a xs, h => by simp only [den]; rw [denL_congr β β' xs h]
  | .t xs, h => by simp only [den]; rw [denL_congr β β' xs h]
  | .u, _ => by simp [den]
theorem denL_congr (β β' : Nat → Nat) : ∀ xs, (∀ j, j ∈ refsL xs → β' j = β j) → denL β' xs = denL β xs
  | [], _ => by simp [denL]
  | x :: xs, h => by
    simp only [denL]
    rw [den_congr β β' x (fun j hj => h j (List.mem_append_left _ hj)), denL_congr β β' xs (fun j hj => h j (List.mem_append_right _ hj))]
end

theorem denL_map (β : Nat → Nat) (xs : List V) : denL β xs = xs.map (den β) := by
  induction xs with
  | nil => rfl
  | cons x xs ih => simp only [denL, List.map_cons, ih]

theorem mem_refsL {xs : List V} {j : Nat} : j ∈ refsL xs ↔ ∃ x ∈ xs, j ∈ refs x := by
  induction xs with
  | nil => simp [refsL]
  | cons x xs ih => simp only [refsL, List.mem_append, ih, List.mem_cons, exists_eq_or_imp]

mutual
theorem val_den (β : Nat → Nat) : ∀ v x, val v = some x → den β v = x
  | .c y, x, h => by simpa [val, den] using h
  | .v y, x, h => by simpa [val, den] using h
  | .p _ _, x, h => by simp [val] at h
  | .sl _ _ _ _, x, h => by simp [val] at h
  | .s _ _ _, x, h => by simp [val] at h
  | .m _, x, h => by simp [val] at h
  | .f g xs ys, x, h => by
    simp only [val, Option.bind_eq_some_iff, Option.some.injEq] at h
    obtain ⟨as, ha, bs, hb, rfl⟩ := h
    simp only [den, valL_den β xs as ha, valL_den β ys bs hb]
  | .a xs, x, h => by
    simp only [val, Option.bind_eq_some_iff, Option.some.injEq] at h
    obtain ⟨as, ha, rfl⟩ := h
    simp only [den, valL_den β xs as ha]
  | .t xs, x, h => by
    simp only [val, Option.bind_eq_some_iff, Option.some.injEq] at h
    obtain ⟨as, ha, rfl⟩ := h
    simp only [den, valL_den β xs as ha]
  | .u, x, h => by simp [val] at h
theorem valL_den (β : Nat → Nat) : ∀ xs as, valL xs = some as → denL β xs = as
  | [], as, h => by simpa [valL, denL] using h
  | x :: xs, as, h => by
    simp only [valL, Option.bind_eq_some_iff, Option.some.injEq] at h
    obtain ⟨a, ha, bs, hb, rfl⟩ := h
    simp only [denL, val_den β x a ha, valL_den β xs bs hb]
end

theorem val_ne {v : V} {x : Value} (h : val v = some x) : v ≠ .u := by rintro rfl; simp [val] at h

theorem den_mk (β : Nat → Nat) (q : Bool) (x : Value) : den β (mk q x) = x := by cases q <;> simp [mk, den]
theorem refs_mk (q : Bool) (x : Value) : refs (mk q x) = [] := by cases q <;> simp [mk, refs]

theorem refsL_mapc (l : List Value) : refsL (l.map .c) = [] := by
  induction l with
  | nil => rfl
  | cons x l ih => simp only [List.map_cons, refsL, refs, ih]; rfl
theorem refsL_mapv (l : List Value) : refsL (l.map .v) = [] := by
  induction l with
  | nil => rfl
  | cons x l ih => simp only [List.map_cons, refsL, refs, ih]; rfl
theorem denL_mapc (β : Nat → Nat) (l : List Value) : denL β (l.map .c) = l := by
  induction l with
  | nil => rfl
  | cons x l ih => simp only [List.map_cons, denL, den, ih]
theorem denL_mapv (β : Nat → Nat) (l : List Value) : denL β (l.map .v) = l := by
  induction l with
  | nil => rfl
  | cons x l ih => simp only [List.map_cons, denL, den, ih]

theorem cells_den {v : V} {xs : List V} (h : cells v = some xs) (β : Nat → Nat) : (den β v).cells = (denL β xs).toArray := by
  unfold cells at h
  split at h <;> simp only [Option.some.injEq, reduceCtorEq] at h <;> subst h
  · simp [den, denL_mapc, Value.cells]
  · simp [den, denL_mapv, Value.cells]
  · simp [den, Value.cells]
  · rename_i x hx
    cases x <;> first | exact absurd rfl (hx _) | simp [den, denL, Value.cells]
  · rename_i x hx
    cases x <;> first | exact absurd rfl (hx _) | simp [den, denL, Value.cells]
  · simp [den, denL, Value.cells]
  · simp [den, denL, Value.cells]
  · simp [den, denL, Value.cells]
  · simp [den, denL, Value.cells]
  · simp [den, denL, Value.cells]
theorem cells_refs {v : V} {xs : List V} (h : cells v = some xs) : ∀ j, j ∈ refsL xs → j ∈ refs v := by
  unfold cells at h
  split at h <;> simp only [Option.some.injEq, reduceCtorEq] at h <;> subst h <;> simp [refsL_mapc, refsL_mapv, refs, refsL]

theorem oneC_den {v : V} (h : oneC v = true) (β : Nat → Nat) : (den β v).oneCell' = true := by
  unfold oneC at h
  split at h <;> first | (simp only [den]; first | exact h | rfl) | cases h

def has (h : Hp) (j : Nat) : Prop := ∃ b, lookB h j = some b

def Room (β : Nat → Nat) (b : Blk) (junk : List Value) : Prop :=
  match b.k with
  | .exact => junk = []
  | .row c sz => (denL β b.cs ++ junk).length = β c * sz ∧ β c ≤ maxLen
  | _ => True

/-- A block of the reader's is the world's block g. -/
def Here (β : Nat → Nat) (b : Blk) (w : World) (g : Nat) : Prop :=
  match b.k with
  | .map _ => ∃ es clock, w.heap[g]? = some (.map es clock) ∧ es.toList.flatMap (fun e => [e.key, e.val]) = denL β b.cs
  | _ => ∃ junk : List Value, w.heap[g]? = some (.cells (denL β b.cs ++ junk).toArray b.ty (0, 0)) ∧ Room β b junk

theorem Here.of_flat {β : Nat → Nat} {b : Blk} {w : World} {g : Nat} (h : Here β b w g) (hf : b.k.flat = true) : ∃ junk : List Value, w.heap[g]? = some (.cells (denL β b.cs ++ junk).toArray b.ty (0, 0)) ∧ Room β b junk := by
  unfold Here at h
  cases hk : b.k with
  | map kd => rw [hk] at hf; cases hf
  | _ => rw [hk] at h; exact h

theorem Kd.live_of_flat {k : Kd} (h : k.flat = true) : k.live = true := by cases k <;> first | rfl | cases h

/-- What the reader's memory is in a world: blocks of one's own; what lies elsewhere is as it was, but where F lets it turn. -/
structure HR (F : Nat → Prop) (w0 : World) (β : Nat → Nat) (h : Hp) (w : World) : Prop where
  os : w.os = w0.os
  tape : w.tape = w0.tape
  output : w.output = w0.output
  size : w0.heap.size ≤ w.heap.size
  keep : ∀ k, k < w0.heap.size → ¬ F k → w.heap[k]? = w0.heap[k]?
  blk : ∀ (j : Nat) (b : Blk), lookB h j = some b → b.k.live = true → Here β b w (β j)
  own : ∀ (j : Nat) (b : Blk), lookB h j = some b → b.k.live = true → F (β j) ∨ w0.heap.size ≤ β j
  inj : ∀ (i j : Nat) (b b' : Blk), lookB h i = some b → lookB h j = some b' → b.k.live = true → b'.k.live = true → β i = β j → i = j
  wf : ∀ (j : Nat) (b : Blk), lookB h j = some b → ∀ i, i ∈ refsL b.cs ∨ i ∈ b.k.refs → has h i

structure RE (β : Nat → Nat) (s : St) (a : Act) : Prop where
  defers : a.defers = []
  size : a.tmps.size = s.n
  val : ∀ t, look s.env t ≠ .u → t < s.n ∧ a.tmps.getD t undef = den β (look s.env t)
  wf : ∀ t j, j ∈ refs (look s.env t) → has s.h j
  fresh : ∀ j, has s.h j → j < s.nx

theorem ev_ok {β : Nat → Nat} {s : St} {a : Act} (h : RE β s a) (x : Operand) (hx : ev s x ≠ .u) : a.eval x = den β (ev s x) := by
  cases x with
  | tmp t => exact (h.val t hx).2
  | const v => simp [Act.eval, ev, den]
  | global g => simp [ev] at hx
  | func f => simp [Act.eval, ev, den]
theorem ev_refs {β : Nat → Nat} {s : St} {a : Act} (h : RE β s a) (x : Operand) : ∀ j, j ∈ refs (ev s x) → has s.h j := by
  cases x with
  | tmp t => exact h.wf t
  | const v => intro j hj; simp [ev, refs] at hj
  | global g => intro j hj; simp [ev, refs] at hj
  | func f => intro j hj; simp [ev, refs] at hj

theorem ev_val {β : Nat → Nat} {s : St} {a : Act} (h : RE β s a) {x : Operand} {y : Value} (hx : val (ev s x) = some y) : a.eval x = y :=
  (ev_ok h x (val_ne hx)).trans (val_den β _ _ hx)

theorem lookB_cons (k : Nat) (b : Blk) (h : Hp) (j : Nat) : lookB ((k, b) :: h) j = if j = k then some b else lookB h j := by
  simp only [lookB]
  by_cases e : j = k
  · subst e; rw [if_pos rfl, show Nat.beq j j = true by simp]; rfl
  · rw [if_neg e]
    cases hb : Nat.beq k j with
    | true => exact absurd (Nat.eq_of_beq_eq_true hb).symm e
    | false => rfl
theorem has_cons (k : Nat) (b : Blk) (h : Hp) (j : Nat) : has ((k, b) :: h) j ↔ j = k ∨ has h j := by
  simp only [has, lookB_cons]
  by_cases e : j = k
  · simp [e]
  · simp [e]

theorem Here.cell {β : Nat → Nat} {b : Blk} {w : World} {g : Nat} (h : Here β b w g) (hf : b.k.flat = true) (i : Nat) (hi : i < b.cs.length) : w.cell? ⟨g, i, none⟩ = (denL β b.cs)[i]? := by
  obtain ⟨junk, hg, _⟩ := h.of_flat hf
  rw [cell_of_row w g i _ _ _ hg]
  have hl : (denL β b.cs).length = b.cs.length := by rw [denL_map]; simp
  simp only [List.getElem?_toArray]
  rw [List.getElem?_append_left (by omega)]

theorem Here.same {β β' : Nat → Nat} {b : Blk} {w w' : World} {g : Nat} (h : Here β b w g) (hg : w'.heap[g]? = w.heap[g]?) (hb : ∀ i, i ∈ refsL b.cs ∨ i ∈ b.k.refs → β' i = β i) : Here β' b w' g := by
  have e : denL β' b.cs = denL β b.cs := denL_congr β β' _ fun j hj => hb j (.inl hj)
  unfold Here at h ⊢
  cases hk : b.k with
  | map kd =>
    rw [hk] at h
    obtain ⟨es, clock, h1, h2⟩ := h
    exact ⟨es, clock, by rw [hg, h1], by rw [h2, e]⟩
  | exact =>
    rw [hk] at h
    obtain ⟨junk, h1, h2⟩ := h
    refine ⟨junk, by rw [hg, h1, e], ?_⟩
    unfold Room at h2 ⊢
    rw [hk] at h2 ⊢
    exact h2
  | row c sz =>
    rw [hk] at h
    obtain ⟨junk, h1, h2⟩ := h
    refine ⟨junk, by rw [hg, h1, e], ?_⟩
    unfold Room at h2 ⊢
    rw [hk] at h2 ⊢
    dsimp only at h2 ⊢
    rw [e, hb c (.inr (by rw [hk]; simp [Kd.refs]))]
    exact h2
  | num =>
    rw [hk] at h
    obtain ⟨junk, h1, h2⟩ := h
    exact ⟨junk, by rw [hg, h1, e], by unfold Room; rw [hk]; trivial⟩
  | dead =>
    rw [hk] at h
    obtain ⟨junk, h1, h2⟩ := h
    exact ⟨junk, by rw [hg, h1, e], by unfold Room; rw [hk]; trivial⟩

theorem HR.lt {F : Nat → Prop} {w0 : World} {β : Nat → Nat} {h : Hp} {w : World} (H : HR F w0 β h w) {j : Nat} {b : Blk} (hj : lookB h j = some b) (hl : b.k.live = true) : β j < w.heap.size := by
  have := H.blk j b hj hl
  unfold Here at this
  cases hk : b.k with
  | map kd => rw [hk] at this; obtain ⟨_, _, h1, _⟩ := this; exact (Array.getElem?_eq_some_iff.1 h1).1
  | _ => rw [hk] at this; obtain ⟨_, h1, _⟩ := this; exact (Array.getElem?_eq_some_iff.1 h1).1

/-- A new block. -/
theorem HR.new_ {F : Nat → Prop} {w0 : World} {β : Nat → Nat} {h : Hp} {w : World} (H : HR F w0 β h w) {k : Nat} (hk : ¬ has h k) (nb : Blk) (obj : Obj) (hc : ∀ j, j ∈ refsL nb.cs ∨ j ∈ nb.k.refs → has h j)
    (hhere : Here (fun j => if j = k then w.heap.size else β j) nb (w.alloc obj) w.heap.size) :
    HR F w0 (fun j => if j = k then w.heap.size else β j) ((k, nb) :: h) (w.alloc obj) := by
  have hne : ∀ j, has h j → ¬ j = k := fun j hj e => hk (e ▸ hj)
  refine ⟨H.os, H.tape, H.output, by have := H.size; simp; omega, fun k' hk' hF => ?_, fun j b hb hl => ?_, fun j b hb hl => ?_, fun i j b b' hi hj l1 l2 e => ?_, fun j b hb i hi => ?_⟩
  · rw [Below.heap_alloc w _ k' (by have := H.size; omega)]; exact H.keep k' hk' hF
  · rw [lookB_cons] at hb
    by_cases e : j = k
    · rw [if_pos e] at hb
      simp only [Option.some.injEq] at hb
      subst hb
      rw [if_pos e]
      exact hhere
    · rw [if_neg e] at hb ⊢
      exact (H.blk j b hb hl).same (Below.heap_alloc w _ _ (H.lt hb hl)) fun i hi => if_neg (hne i (H.wf j b hb i hi))
  · rw [lookB_cons] at hb
    by_cases e : j = k
    · rw [if_pos e]; exact .inr H.size
    · rw [if_neg e] at hb ⊢; exact H.own j b hb hl
  · rw [lookB_cons] at hi hj
    replace e : (if i = k then w.heap.size else β i) = (if j = k then w.heap.size else β j) := e
    by_cases e1 : i = k <;> by_cases e2 : j = k
    · omega
    · rw [if_pos e1, if_neg e2] at e; rw [if_neg e2] at hj; have := H.lt hj l2; omega
    · rw [if_neg e1, if_pos e2] at e; rw [if_neg e1] at hi; have := H.lt hi l1; omega
    · rw [if_neg e1, if_neg e2] at e; rw [if_neg e1] at hi; rw [if_neg e2] at hj; exact H.inj i j b b' hi hj l1 l2 e
  · rw [has_cons]
    rw [lookB_cons] at hb
    by_cases e : j = k
    · rw [if_pos e] at hb
      simp only [Option.some.injEq] at hb
      subst hb
      exact .inr (hc i hi)
    · rw [if_neg e] at hb
      exact .inr (H.wf j b hb i hi)

theorem HR.new {F : Nat → Prop} {w0 : World} {β : Nat → Nat} {h : Hp} {w : World} (H : HR F w0 β h w) {k : Nat} (hk : ¬ has h k) (t : TypeId) (cs : List V) (hc : ∀ j, j ∈ refsL cs → has h j) :
    HR F w0 (fun j => if j = k then w.heap.size else β j) ((k, ⟨t, cs, .exact⟩) :: h) (w.alloc (.cells (denL β cs).toArray t)) := by
  have hne : ∀ j, has h j → ¬ j = k := fun j hj e => hk (e ▸ hj)
  have hcs : denL (fun j => if j = k then w.heap.size else β j) cs = denL β cs := denL_congr β _ cs fun j hj => if_neg (hne j (hc j hj))
  refine H.new_ hk _ _ (fun j hj => hj.elim (hc j) (fun h => by simp [Kd.refs] at h)) ?_
  refine ⟨[], ?_, rfl⟩
  dsimp only
  rw [List.append_nil, hcs]
  exact heap_alloc_new w _

theorem partV_ok {P : Program} {t : TypeId} {cs : List V} {o : Nat} {v : V} (h : partV P t cs o = some v) (β : Nat → Nat) (w : World) :
    (part t (denL β cs).toArray o).run P w = .ok (den β v) w ∧ ∀ j, j ∈ refs v → j ∈ refsL cs := by
  unfold partV aggT at h
  split at h
  · rename_i i ha hi
    have hag : (isAgg t).run P w = .ok true w := by
      split at ha <;> rename_i hu <;> first | (cases ha; done) | (simp [isAgg, run_underlying hu])
    cases hb : Nat.ble (o + i.size) cs.length with
    | false => rw [hb] at h; cases h
    | true =>
      rw [hb] at h
      simp only [cond_true, Option.some.injEq] at h
      subst h
      have hle := Nat.le_of_ble_eq_true hb
      refine ⟨?_, ?_⟩
      · simp only [part, Sem.run_bind, hag, Result.andThen_ok, if_true, sizeOf, typeInfo, run_program, hi, Sem.run_pure, den]
        congr 2
        rw [denL_map, denL_map]
        apply Array.ext'
        rw [Array.toList_extract]
        simp [List.extract, List.map_take, List.map_drop, Nat.add_sub_cancel_left]
      · intro j hj
        obtain ⟨x, hx, hj⟩ := mem_refsL.1 hj
        exact mem_refsL.2 ⟨x, List.mem_of_mem_drop (List.mem_of_mem_take hx), hj⟩
  · rename_i i ha hi
    have hag : (isAgg t).run P w = .ok false w := by
      split at ha <;> rename_i hu <;> first | (cases ha; done) | (simp only [isAgg, Sem.run_bind, run_underlying hu, Result.andThen_ok]; rename_i d _ _; cases d <;> first | rfl | (exfalso; rename_i h1 h2; first | exact h1 _ rfl | exact h2 _ _ rfl | skip))
    refine ⟨?_, fun j hj => mem_refsL.2 ⟨v, List.mem_of_getElem? h, hj⟩⟩
    have hx : (denL β cs).toArray[o]? = some (den β v) := by rw [denL_map]; simp [h]
    simp only [part, Sem.run_bind, hag, Result.andThen_ok, Bool.false_eq_true, if_false, hx, Sem.run_pure]
  · cases h
end Go.Proofs.Ythmighgfefjcmaa.X
