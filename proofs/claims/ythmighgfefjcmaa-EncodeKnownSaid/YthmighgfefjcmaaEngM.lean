/- The reader's maps: keys are numbers of one kind; what a look-up and a new entry do. No condition. -/
import Derived.Test.YthmighgfefjcmaaEngB
import Derived.MapKept
namespace Go.Proofs.Ythmighgfefjcmaa.X
open Go.RowKit

section
variable {P : Program} {F : Nat → Prop} {w0 : World} {β : Nat → Nat} {a : Act} {w : World}

/-- An old block's contents turned. -/
theorem HR.put {h : Hp} (H : HR F w0 β h w) {j : Nat} {b : Blk} (hj : lookB h j = some b) (hlive : b.k.live = true) (nb : Blk) (hc : ∀ i, i ∈ refsL nb.cs ∨ i ∈ nb.k.refs → has h i) {w' : World}
    (ho : w'.os = w.os) (ht : w'.tape = w.tape) (hu : w'.output = w.output) (hs : w'.heap.size = w.heap.size) (hk : ∀ k, k ≠ β j → w'.heap[k]? = w.heap[k]?) (hh : Here β nb w' (β j)) :
    HR F w0 β ((j, nb) :: h) w' := by
  refine ⟨ho.trans H.os, ht.trans H.tape, hu.trans H.output, by rw [hs]; exact H.size, fun k hk' hF => ?_, fun i c hi hli => ?_, fun i c hi hli => ?_, fun i k b1 b2 hi hk l1 l2 e => ?_, fun i c hi x hx => ?_⟩
  · have hne : k ≠ β j := by
      rintro rfl
      rcases H.own j b hj hlive with h2 | h2
      · exact hF h2
      · omega
    rw [hk _ hne]; exact H.keep k hk' hF
  · rw [lookB_cons] at hi
    by_cases e : i = j
    · rw [if_pos e] at hi
      simp only [Option.some.injEq] at hi
      subst hi
      subst e
      exact hh
    · rw [if_neg e] at hi
      have hne : β i ≠ β j := fun e2 => e (H.inj i j c b hi hj hli hlive e2)
      exact (H.blk i c hi hli).same (hk _ hne) fun _ _ => rfl
  · rw [lookB_cons] at hi
    by_cases e : i = j
    · subst e; exact H.own i b hj hlive
    · rw [if_neg e] at hi; exact H.own i c hi hli
  · rw [lookB_cons] at hi hk
    by_cases e1 : i = j <;> by_cases e2 : k = j
    · omega
    · subst e1; rw [if_neg e2] at hk; exact H.inj i k b b2 hj hk hlive l2 e
    · subst e2; rw [if_neg e1] at hi; exact H.inj i k b1 b hi hj l1 hlive e
    · rw [if_neg e1] at hi; rw [if_neg e2] at hk; exact H.inj i k b1 b2 hi hk l1 l2 e
  · rw [has_cons]
    rw [lookB_cons] at hi
    by_cases e : i = j
    · rw [if_pos e] at hi
      simp only [Option.some.injEq] at hi
      subst hi
      exact .inr (hc x hx)
    · rw [if_neg e] at hi
      exact .inr (H.wf i c hi x hx)

theorem map_find (kd : IntKind) (n : Int) (closed : Bool) (z : V) : ∀ (es : List MapEntry) (cs : List V) (ks : List Int) (i : Nat), keysM kd cs = some ks → es.flatMap (fun e => [e.key, e.val]) = denL β cs →
    ∃ r, Instr.findNow (.int kd) (.int kd n) es i = some r ∧ (ks.all (fun m => !(decide (m = n))) = true → r = none) ∧
      (lookM closed n z cs ≠ .u → (match r with | some (_, v) => v | none => den β z) = den β (lookM closed n z cs))
  | [], cs, ks, i, hk, he => by
    have hc : cs = [] := by
      cases cs with
      | nil => rfl
      | cons x xs => simp [denL] at he
    subst hc
    refine ⟨none, rfl, fun _ => rfl, fun _ => ?_⟩
    simp [lookM]
  | e :: es, cs, ks, i, hk, he => by
    unfold keysM at hk
    split at hk
    · simp [denL] at he
    · rename_i kd' m x l
      split at hk
      · rename_i hkd _
        subst hkd
        simp only [Option.bind_eq_some_iff, Option.some.injEq] at hk
        obtain ⟨ks', hk', rfl⟩ := hk
        simp only [List.flatMap_cons, denL, den, List.cons_append, List.nil_append, List.cons.injEq] at he
        obtain ⟨he1, he2, he3⟩ := he
        obtain ⟨r, h1, h2, h3⟩ := map_find kd n closed z es l ks' (i + 1) hk' he3
        by_cases hmn : n = m
        · subst hmn
          refine ⟨some (i, e.val), by simp [Instr.findNow, Instr.sameNow, he1], fun hall => by simp at hall, fun hu => ?_⟩
          unfold lookM at hu ⊢
          cases closed with
          | true =>
            simp only [cond_true] at hu ⊢
            split
            · exact he2
            · rename_i hne _; exact absurd rfl hne
          | false =>
            simp only [cond_false] at hu ⊢
            obtain ⟨x', y', hx, hy, hd⟩ := mergeB_den hu
            rw [hd]
            simp only [beq_self_eq_true, if_true]
            rw [he2]
            exact val_den β _ _ hx
        · refine ⟨r, by simp [Instr.findNow, Instr.sameNow, he1, h1, show (n == m) = false by simpa using hmn], fun hall => h2 (by simp only [List.all_cons, Bool.and_eq_true] at hall; exact hall.2), fun hu => ?_⟩
          unfold lookM at hu ⊢
          cases closed with
          | true =>
            simp only [cond_true] at hu ⊢
            cases hd : decEq n m with
            | isTrue e => exact absurd e hmn
            | isFalse _ => rw [hd] at hu; exact h3 hu
          | false =>
            simp only [cond_false] at hu ⊢
            obtain ⟨x', y', hx, hy, hd⟩ := mergeB_den hu
            rw [hd]
            rw [if_neg (by simpa using hmn)]
            rw [h3 (val_ne hy)]
            exact val_den β _ _ hy
      · cases hk
    · cases hk

theorem lookM_refs (closed : Bool) (n : Int) (z : Value) : ∀ (cs : List V) (j : Nat), j ∈ refs (lookM closed n (.c z) cs) → j ∈ refsL cs
  | cs, j, hj => by
    unfold lookM at hj
    split at hj
    · rename_i kd m x l
      have ih := lookM_refs closed n z l j
      simp only [refsL, refs, List.nil_append, List.mem_append]
      cases closed with
      | true =>
        simp only [cond_true] at hj
        split at hj
        · exact .inl hj
        · exact .inr (ih hj)
      | false =>
        simp only [cond_false] at hj
        rw [mergeB_refs] at hj
        cases hj
    · simp [refs] at hj
termination_by cs => cs.length

theorem intOf_ok {kd : IntKind} {s : St} (hr : RE β s a) {x : Operand} {n : Int} (h : intOf' kd (ev s x) = some n) : a.eval x = .int kd n := by
  unfold intOf' at h
  split at h
  · rename_i kd' m hx
    split at h
    · rename_i e _; subst e; simp only [Option.some.injEq] at h; subst h
      exact (ev_ok hr x (by rw [hx]; simp)).trans (by rw [hx]; rfl)
    · cases h
  · rename_i kd' m hx
    split at h
    · rename_i e _; subst e; simp only [Option.some.injEq] at h; subst h
      exact (ev_ok hr x (by rw [hx]; simp)).trans (by rw [hx]; rfl)
    · cases h
  · cases h

theorem mapKind_ok {t e : TypeId} {kd : IntKind} (h : mapKind P t = some (kd, e)) : ∃ kt, P.underlying t = some (.map kt e) ∧ P.underlying kt = some (.int kd) := by
  unfold mapKind at h
  split at h
  · rename_i kt e' hu
    split at h
    · rename_i kd' hk
      simp only [Option.some.injEq, Prod.mk.injEq] at h
      obtain ⟨rfl, rfl⟩ := h
      exact ⟨kt, hu, hk⟩
    · cases h
  · cases h

end
end Go.Proofs.Ythmighgfefjcmaa.X
