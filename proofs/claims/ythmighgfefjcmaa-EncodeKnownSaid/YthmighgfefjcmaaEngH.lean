/- A region whose order is open, and where the order makes no difference. No condition. -/
import Derived.Test.YthmighgfefjcmaaEngF
import Derived.Orders
namespace Go.Proofs.Ythmighgfefjcmaa.X
open Go.RowKit

section
variable {P : Program} {φ : Specs} {F₀ : Nat → Prop} {w0 : World}

theorem T.sat_pick {K : Ex → St → Prop} : ∀ t : T, t.sat K → ∃ e s, K e s ∧ t.sat fun e' s' => e' = e ∧ s' = s
  | .leaf e s, h => ⟨e, s, h, rfl, rfl⟩
  | .ite b x y, h => by
    cases b with
    | true => obtain ⟨e, s, h1, h2⟩ := T.sat_pick x (h.1 rfl); exact ⟨e, s, h1, fun _ => h2, fun hb => Bool.noConfusion hb⟩
    | false => obtain ⟨e, s, h1, h2⟩ := T.sat_pick y (h.2 rfl); exact ⟨e, s, h1, (fun hb => Bool.noConfusion hb), fun _ => h2⟩
  | .req p x, h => by obtain ⟨e, s, h1, h2⟩ := T.sat_pick x h.2; exact ⟨e, s, h1, h.1, h2⟩
  | .fail, h => h.elim

theorem has_iff (h : Hp) (j : Nat) : has h j ↔ j ∈ keysOf h := by
  induction h with
  | nil => simp [has, keysOf, lookB]
  | cons x h ih => obtain ⟨k, b⟩ := x; rw [has_cons, ih]; simp [keysOf]
theorem has_any (h : Hp) (j : Nat) : (keysOf h).any (Nat.beq j) = true ↔ has h j := by
  rw [has_iff, List.any_eq_true]
  exact ⟨fun ⟨x, hx, e⟩ => by rw [Nat.eq_of_beq_eq_true e]; exact hx, fun hx => ⟨j, hx, by simp⟩⟩

theorem lookB_append (d h : Hp) (b : Nat) : lookB (d ++ h) b = if b ∈ keysOf d then lookB d b else lookB h b := by
  induction d with
  | nil => simp [keysOf]
  | cons x d ih =>
    obtain ⟨k, c⟩ := x
    simp only [List.cons_append, lookB_cons, ih, keysOf, List.map_cons, List.mem_cons]
    by_cases e : b = k
    · simp [e]
    · simp only [e, false_or, if_false]
      rfl
theorem has_append (d h : Hp) (j : Nat) : has (d ++ h) j ↔ has d j ∨ has h j := by
  rw [has_iff, has_iff, has_iff]; simp [keysOf]

theorem squash_look : ∀ (h : Hp) (seen : List Nat) (j : Nat), lookB (squash h seen) j = if j ∈ seen then none else lookB h j
  | [], seen, j => by simp [squash, lookB]
  | (k, b) :: l, seen, j => by
    simp only [squash]
    cases hb : seen.any (Nat.beq k) with
    | true =>
      obtain ⟨x, hx, e⟩ := List.any_eq_true.1 hb
      have e := Nat.eq_of_beq_eq_true e
      subst e
      simp only [cond_true]
      rw [squash_look l seen j, lookB_cons]
      by_cases hj : j ∈ seen
      · simp [hj]
      · have : ¬ j = k := fun e => hj (e ▸ hx)
        simp [hj, this]
    | false =>
      have hk : ¬ k ∈ seen := fun hk => by
        have : seen.any (Nat.beq k) = true := List.any_eq_true.2 ⟨k, hk, by simp⟩
        rw [hb] at this; cases this
      simp only [cond_false]
      rw [lookB_cons, squash_look l (k :: seen) j, lookB_cons]
      by_cases e : j = k
      · subst e; simp [hk]
      · simp [e]
theorem squash_look0 (h : Hp) (j : Nat) : lookB (squash h []) j = lookB h j := by rw [squash_look]; simp
theorem squash_has (h : Hp) (j : Nat) : has (squash h []) j ↔ has h j := by unfold has; rw [squash_look0]
theorem squash_app (h h' : Hp) (j : Nat) : lookB (squash h [] ++ h') j = lookB (h ++ h') j := by
  rw [lookB_append, lookB_append, squash_look0]
  have : j ∈ keysOf (squash h []) ↔ j ∈ keysOf h := by rw [← has_iff, ← has_iff, squash_has]
  simp [this]

theorem restr_mono (h : Hp) : ∀ (n : Nat) (todo : List Nat) (acc h0 : Hp), restr h n todo acc = some h0 → ∀ j, has acc j → has h0 j
  | 0, _, _, _, e => by simp [restr] at e
  | n + 1, [], acc, h0, e => by simp only [restr, Option.some.injEq] at e; subst e; exact fun _ h => h
  | n + 1, j :: rest, acc, h0, e => by
    simp only [restr] at e
    split at e
    · exact restr_mono h n _ _ _ e
    · split at e
      · cases e
      · intro i hi; exact restr_mono h n _ _ _ e i ((has_cons _ _ _ _).2 (.inr hi))

theorem restr_same (h h' : Hp) : ∀ (n : Nat) (todo : List Nat) (acc h0 : Hp), restr h n todo acc = some h0 → (∀ j, has h0 j → lookB h' j = lookB h j) → restr h' n todo acc = some h0
  | 0, _, _, _, e, _ => by simp [restr] at e
  | n + 1, [], acc, h0, e, _ => by simp only [restr, Option.some.injEq] at e ⊢; exact e
  | n + 1, j :: rest, acc, h0, e, hs => by
    simp only [restr] at e ⊢
    split at e
    · exact restr_same h h' n _ _ _ e hs
    · split at e
      · cases e
      · rename_i b hb
        have hj : has h0 j := restr_mono h n _ _ _ e j ((has_cons _ _ _ _).2 (.inl rfl))
        rw [hs j hj, hb]
        exact restr_same h h' n _ _ _ e hs

theorem restr_ok (h : Hp) : ∀ (n : Nat) (todo : List Nat) (acc h0 : Hp), restr h n todo acc = some h0 → (∀ j b, lookB acc j = some b → lookB h j = some b) →
    (∀ (j : Nat) (b : Blk), lookB acc j = some b → ∀ i, i ∈ refsL b.cs ∨ i ∈ b.k.refs → has acc i ∨ i ∈ todo) →
    (∀ j b, lookB h0 j = some b → lookB h j = some b) ∧ (∀ (j : Nat) (b : Blk), lookB h0 j = some b → ∀ i, i ∈ refsL b.cs ∨ i ∈ b.k.refs → has h0 i) ∧ ∀ j, j ∈ todo → has h0 j
  | 0, _, _, _, e, _, _ => by simp [restr] at e
  | n + 1, [], acc, h0, e, h1, h2 => by
    simp only [restr, Option.some.injEq] at e
    subst e
    exact ⟨h1, fun j b hj i hi => (h2 j b hj i hi).resolve_right (by simp), by simp⟩
  | n + 1, j :: rest, acc, h0, e, h1, h2 => by
    simp only [restr] at e
    split at e
    · rename_i b0 hb0
      obtain ⟨g1, g2, g3⟩ := restr_ok h n rest acc h0 e h1 fun j' b hj' i hi => by
        rcases h2 j' b hj' i hi with h3 | h3
        · exact .inl h3
        · rcases List.mem_cons.1 h3 with rfl | h3
          · exact .inl ⟨b0, hb0⟩
          · exact .inr h3
      refine ⟨g1, g2, fun i hi => ?_⟩
      rcases List.mem_cons.1 hi with rfl | hi
      · exact restr_mono h n _ _ _ e _ ⟨b0, hb0⟩
      · exact g3 i hi
    · split at e
      · cases e
      · rename_i b hb
        obtain ⟨g1, g2, g3⟩ := restr_ok h n _ _ h0 e (fun j' b' hj' => by
            rw [lookB_cons] at hj'
            by_cases e2 : j' = j
            · rw [if_pos e2] at hj'; simp only [Option.some.injEq] at hj'; subst hj'; rw [e2]; exact hb
            · rw [if_neg e2] at hj'; exact h1 j' b' hj') fun j' b' hj' i hi => by
          rw [lookB_cons] at hj'
          by_cases e2 : j' = j
          · rw [if_pos e2] at hj'
            simp only [Option.some.injEq] at hj'
            subst hj'
            refine .inr ?_
            rw [List.mem_append, List.mem_append]
            exact .inl hi
          · rw [if_neg e2] at hj'
            rcases h2 j' b' hj' i hi with h3 | h3
            · exact .inl ((has_cons _ _ _ _).2 (.inr h3))
            · rcases List.mem_cons.1 h3 with rfl | h3
              · exact .inl ((has_cons _ _ _ _).2 (.inl rfl))
              · exact .inr (by rw [List.mem_append]; exact .inr h3)
        refine ⟨g1, g2, fun i hi => ?_⟩
        rcases List.mem_cons.1 hi with rfl | hi
        · exact restr_mono h n _ _ _ e _ ((has_cons _ _ _ _).2 (.inl rfl))
        · exact g3 i (by rw [List.mem_append]; exact .inr hi)

theorem HR.congr {β : Nat → Nat} {h h' : Hp} {w : World} (H : HR F₀ w0 β h w) (e : ∀ b, lookB h' b = lookB h b) : HR F₀ w0 β h' w :=
  ⟨H.os, H.tape, H.output, H.size, H.keep, fun j b hj => H.blk j b (by rw [← e]; exact hj), fun j b hj => H.own j b (by rw [← e]; exact hj),
    fun i j b b' hi hj => H.inj i j b b' (by rw [← e]; exact hi) (by rw [← e]; exact hj), fun j b hj i hi => by
      obtain ⟨c, hc⟩ := H.wf j b (by rw [← e]; exact hj) i hi
      exact ⟨c, by rw [e]; exact hc⟩⟩

/-- What a call may turn: the blocks that it was handed. -/
def Handed (β : Nat → Nat) (h0 : Hp) (g : Nat) : Prop := ∃ j b, lookB h0 j = some b ∧ b.k.live = true ∧ g = β j

theorem HR.frame {β : Nat → Nat} {h h0 : Hp} {w : World} (H : HR F₀ w0 β h w) (hsub : ∀ j b, lookB h0 j = some b → lookB h j = some b)
    (hcl : ∀ (j : Nat) (b : Blk), lookB h0 j = some b → ∀ i, i ∈ refsL b.cs ∨ i ∈ b.k.refs → has h0 i) : HR (Handed β h0) w β h0 w :=
  ⟨rfl, rfl, rfl, Nat.le_refl _, fun _ _ _ => rfl, fun j b hj => H.blk j b (hsub j b hj), fun j b hj hl => .inl ⟨j, b, hj, hl, rfl⟩,
    fun i j b b' hi hj => H.inj i j b b' (hsub i b hi) (hsub j b' hj), hcl⟩

theorem HR.unframe {β β' : Nat → Nat} {h h0 h1 : Hp} {w w' : World} (H : HR F₀ w0 β h w) (hsub : ∀ j b, lookB h0 j = some b → lookB h j = some b) (H1 : HR (Handed β h0) w β' h1 w')
    (hext : ∀ j, has h0 j → β' j = β j) (hmono : ∀ j, has h0 j → has h1 j) (hnew : ∀ j, has h1 j → has h0 j ∨ ¬ has h j) :
    HR F₀ w0 (fun j => bif (keysOf h1).any (Nat.beq j) then β' j else β j) (h1 ++ h) w' ∧ (∀ j, has h j → (fun j => bif (keysOf h1).any (Nat.beq j) then β' j else β j) j = β j) ∧
      ∀ j, has h1 j → (fun j => bif (keysOf h1).any (Nat.beq j) then β' j else β j) j = β' j := by
  have e1 : ∀ j, has h1 j → (bif (keysOf h1).any (Nat.beq j) then β' j else β j) = β' j := fun j hj => by rw [(has_any h1 j).2 hj]; rfl
  have e0 : ∀ j, ¬ has h1 j → (bif (keysOf h1).any (Nat.beq j) then β' j else β j) = β j := fun j hj => by
    have : (keysOf h1).any (Nat.beq j) = false := by
      cases e : (keysOf h1).any (Nat.beq j) with
      | false => rfl
      | true => exact absurd ((has_any h1 j).1 e) hj
    rw [this]; rfl
  have e2 : ∀ j, has h j → (bif (keysOf h1).any (Nat.beq j) then β' j else β j) = β j := fun j hj => by
    by_cases hj1 : has h1 j
    · rw [e1 j hj1]
      exact hext j ((hnew j hj1).resolve_right (fun hn => hn hj))
    · exact e0 j hj1
  have hl1 : ∀ j b, has h1 j → lookB (h1 ++ h) j = some b → lookB h1 j = some b := fun j b hj hb => by
    rw [lookB_append, if_pos ((has_iff _ _).1 hj)] at hb; exact hb
  have hl0 : ∀ j b, ¬ has h1 j → lookB (h1 ++ h) j = some b → lookB h j = some b := fun j b hj hb => by
    rw [lookB_append, if_neg (fun e => hj ((has_iff _ _).2 e))] at hb; exact hb
  have cross : ∀ i j b b', has h1 i → lookB h1 i = some b → b.k.live = true → ¬ has h1 j → lookB h j = some b' → b'.k.live = true → β' i = β j → False := by
    intro i j b b' hi hb l1 hj hb' l2 e
    rcases H1.own i b hb l1 with ⟨j', c, hj', hl, e3⟩ | h3
    · have : j' = j := H.inj j' j c b' (hsub j' c hj') hb' hl l2 (by omega)
      subst this
      exact hj (hmono j' ⟨c, hj'⟩)
    · have := H.lt hb' l2; omega
  refine ⟨⟨H1.os.trans H.os, H1.tape.trans H.tape, H1.output.trans H.output, Nat.le_trans H.size H1.size, fun k hk hF => ?_, fun j b hj hl => ?_, fun j b hj hl => ?_, fun i j b b' hi hj l1 l2 e => ?_, fun j b hj i hi => ?_⟩, e2, e1⟩
  · refine (H1.keep k (Nat.lt_of_lt_of_le hk H.size) ?_).trans (H.keep k hk hF)
    rintro ⟨j, b, hj, hl, rfl⟩
    rcases H.own j b (hsub j b hj) hl with h2 | h2
    · exact hF h2
    · omega
  · by_cases h1j : has h1 j
    · have hb := hl1 j b h1j hj
      show Here _ b w' (bif (keysOf h1).any (Nat.beq j) then β' j else β j)
      rw [e1 j h1j]
      exact (H1.blk j b hb hl).same rfl fun i hi => e1 i (H1.wf j b hb i hi)
    · have hb := hl0 j b h1j hj
      show Here _ b w' (bif (keysOf h1).any (Nat.beq j) then β' j else β j)
      rw [e0 j h1j]
      refine (H.blk j b hb hl).same (H1.keep _ (H.lt hb hl) ?_) fun i hi => e2 i (H.wf j b hb i hi)
      rintro ⟨j', c, hj', hl', e⟩
      have : j' = j := H.inj j' j c b (hsub j' c hj') hb hl' hl e.symm
      subst this
      exact h1j (hmono j' ⟨c, hj'⟩)
  · by_cases h1j : has h1 j
    · have hb := hl1 j b h1j hj
      show F₀ (bif (keysOf h1).any (Nat.beq j) then β' j else β j) ∨ w0.heap.size ≤ (bif (keysOf h1).any (Nat.beq j) then β' j else β j)
      rw [e1 j h1j]
      rcases H1.own j b hb hl with ⟨j', c, hj', hl', e⟩ | h2
      · rw [e]; exact H.own j' c (hsub j' c hj') hl'
      · have := H.size; exact .inr (by omega)
    · have hb := hl0 j b h1j hj
      show F₀ (bif (keysOf h1).any (Nat.beq j) then β' j else β j) ∨ w0.heap.size ≤ (bif (keysOf h1).any (Nat.beq j) then β' j else β j)
      rw [e0 j h1j]
      exact H.own j b hb hl
  · replace e : (bif (keysOf h1).any (Nat.beq i) then β' i else β i) = (bif (keysOf h1).any (Nat.beq j) then β' j else β j) := e
    by_cases h1i : has h1 i <;> by_cases h1j : has h1 j
    · rw [e1 i h1i, e1 j h1j] at e
      exact H1.inj i j b b' (hl1 i b h1i hi) (hl1 j b' h1j hj) l1 l2 e
    · rw [e1 i h1i, e0 j h1j] at e
      exact (cross i j b b' h1i (hl1 i b h1i hi) l1 h1j (hl0 j b' h1j hj) l2 e).elim
    · rw [e0 i h1i, e1 j h1j] at e
      exact (cross j i b' b h1j (hl1 j b' h1j hj) l2 h1i (hl0 i b h1i hi) l1 e.symm).elim
    · rw [e0 i h1i, e0 j h1j] at e
      exact H.inj i j b b' (hl0 i b h1i hi) (hl0 j b' h1j hj) l1 l2 e
  · rw [has_append]
    by_cases h1j : has h1 j
    · exact .inl (H1.wf j b (hl1 j b h1j hj) i hi)
    · exact .inr (H.wf j b (hl0 j b h1j hj) i hi)

/-- A body ends so that its caller goes on. -/
def NoExit : Ex → Prop
  | .exit _ => False
  | _ => True

/-- A call is known: what it answers and lays, with keys from k to k1. -/
def IsCall (P : Program) (φ : Specs) (ih : Task → St → T) (s : St) (k : Nat) (g : FuncId) (as : List V) (fn : Func) (c : Code) (v : V) (d : Hp) (k1 : Nat) : Prop :=
  (∃ r vs z, spec φ g = some r ∧ valL as = some vs ∧ r vs = some z ∧ v = mk (isCL as) z ∧ d = [] ∧ k1 = k) ∨
  (∃ h0, restr s.h 4096 (refsL as) [] = some h0 ∧ (∀ j, has h0 j → j < k) ∧ k ≤ k1 ∧
    (ih (.code c) ⟨enterEnv as 0, Nat.max as.length fn.ntmps, h0, k⟩).sat fun e s1 =>
      NoExit e ∧ X.res P fn s1 = some v ∧ squash s1.h [] = d ∧ s1.nx = k1 ∧ ∀ j, has s1.h j → has h0 j ∨ (k ≤ j ∧ j < k1))

/-- An operation is known: what it answers and lays, with keys from k to k1. -/
def Is (P : Program) (φ : Specs) (ih : Task → St → T) (s : St) (k : Nat) (o : Oper) (v : V) (d : Hp) (k1 : Nat) : Prop :=
  match valueCall o.op with
  | none => ∃ p, step P s k o = some (v, d, p) ∧ (∀ q, p = some q → q) ∧ k1 = k + 2
  | some (x, args) => ∃ g xs ys fn c, target (ev s x) = some (g, xs, ys) ∧ (xs ++ evL s args.toList ++ ys).all notU = true ∧ P.funcs[g]? = some fn ∧ (fn.name == "runtime.NumGoroutine") = false ∧ fn.body = some c ∧
      IsCall P φ ih s k g (xs ++ evL s args.toList ++ ys) fn c v d k1

theorem is_le {ih : Task → St → T} {s : St} {k k1 : Nat} {o : Oper} {v : V} {d : Hp} (h : Is P φ ih s k o v d k1) : k ≤ k1 := by
  unfold Is at h
  split at h
  · obtain ⟨_, _, _, rfl⟩ := h; omega
  · obtain ⟨_, _, _, _, _, _, _, _, _, _, h⟩ := h
    rcases h with ⟨_, _, _, _, _, _, _, _, rfl⟩ | ⟨_, _, _, h, _⟩ <;> omega

theorem oneT_sat {ih : Task → St → T} {s : St} {k : Nat} {o : Oper} {K : V → Hp → Nat → T} {Q : Ex → St → Prop} (h : (oneT P φ ih s k o K).sat Q) :
    ∃ v d k1, Is P φ ih s k o v d k1 ∧ (K v d k1).sat Q := by
  unfold oneT at h
  unfold Is
  cases hvc : valueCall o.op with
  | none =>
    simp only [hvc] at h
    dsimp only
    split at h
    · rename_i v d p hst
      have hask : (∀ q, p = some q → q) ∧ (K v d (k + 2)).sat Q := by
        cases p with
        | none => exact ⟨fun q hq => (by cases hq), h⟩
        | some q => exact ⟨fun q' hq => (by injection hq with hq; subst hq; exact h.1), h.2⟩
      exact ⟨v, d, k + 2, ⟨p, hst, hask.1, rfl⟩, hask.2⟩
    · exact h.elim
  | some xa =>
    obtain ⟨x, args⟩ := xa
    simp only [hvc] at h
    dsimp only
    split at h
    · exact h.elim
    · rename_i g xs ys ht
      generalize hasE : xs ++ evL s args.toList ++ ys = as at h
      cases hnu : as.all notU with
      | false => rw [hnu] at h; exact h.elim
      | true =>
      rw [hnu] at h
      simp only [cond_true] at h
      split at h
      · exact h.elim
      · rename_i fn hf
        cases hname : (fn.name == "runtime.NumGoroutine") with
        | true => rw [hname] at h; exact h.elim
        | false =>
        rw [hname] at h
        simp only [cond_false] at h
        split at h
        · exact h.elim
        · rename_i c hb
          have fin : (∃ v d k1, IsCall P φ ih s k g as fn c v d k1 ∧ (K v d k1).sat Q) → ∃ v d k1, (∃ g xs ys fn c, target (ev s x) = some (g, xs, ys) ∧ (xs ++ evL s args.toList ++ ys).all notU = true ∧ P.funcs[g]? = some fn ∧ (fn.name == "runtime.NumGoroutine") = false ∧ fn.body = some c ∧
              IsCall P φ ih s k g (xs ++ evL s args.toList ++ ys) fn c v d k1) ∧ (K v d k1).sat Q := by
            rintro ⟨v, d, k1, h1, h2⟩
            exact ⟨v, d, k1, ⟨g, xs, ys, fn, c, ht, by rw [hasE]; exact hnu, hf, hname, hb, by rw [hasE]; exact h1⟩, h2⟩
          refine fin ?_
          split at h
          · rename_i r hsp
            split at h
            · rename_i vs hvs
              split at h
              · rename_i z hz
                exact ⟨_, _, _, .inl ⟨r, vs, z, hsp, hvs, hz, rfl, rfl, rfl⟩, h⟩
              · exact h.elim
            · exact h.elim
          · split at h
            · exact h.elim
            · rename_i h0 hr
              cases hk : ((keysOf h0).all fun j => Nat.blt j k) with
              | false => rw [hk] at h; exact h.elim
              | true =>
              rw [hk] at h
              simp only [cond_true] at h
              rw [T.sat_bind] at h
              obtain ⟨e, s1, hK, hpick⟩ := T.sat_pick _ h
              have fin : ∀ z, X.res P fn s1 = some z → NoExit e →
                  (bif Nat.ble k s1.nx && (keysOf s1.h).all (fun j => (keysOf h0).any (Nat.beq j) || (Nat.ble k j && Nat.blt j s1.nx)) then K z (squash s1.h []) s1.nx else .fail).sat Q →
                  ∃ v d k1, IsCall P φ ih s k g as fn c v d k1 ∧ (K v d k1).sat Q := by
                intro z hz he hq
                cases hkk : (Nat.ble k s1.nx && (keysOf s1.h).all fun j => (keysOf h0).any (Nat.beq j) || (Nat.ble k j && Nat.blt j s1.nx)) with
                | false => rw [hkk] at hq; exact hq.elim
                | true =>
                rw [hkk] at hq
                rw [Bool.and_eq_true] at hkk
                refine ⟨z, squash s1.h [], s1.nx, .inr ⟨h0, hr, fun j hj => ?_, Nat.le_of_ble_eq_true hkk.1, ?_⟩, hq⟩
                · exact Nat.le_of_ble_eq_true (List.all_eq_true.1 hk j ((has_iff _ _).1 hj))
                · refine T.sat_mono hpick ?_
                  rintro e' s' ⟨rfl, rfl⟩
                  refine ⟨he, hz, rfl, rfl, fun j hj => ?_⟩
                  have := List.all_eq_true.1 hkk.2 j ((has_iff _ _).1 hj)
                  rw [Bool.or_eq_true, Bool.and_eq_true] at this
                  rcases this with h2 | ⟨h2, h3⟩
                  · exact .inl ((has_any _ _).1 h2)
                  · exact .inr ⟨Nat.le_of_ble_eq_true h2, Nat.le_of_ble_eq_true h3⟩
              cases e with
              | exit i => exact hK.elim
              | normal =>
                dsimp only at hK
                split at hK
                · rename_i z hz; exact fin z hz trivial hK
                · exact hK.elim
              | ret =>
                dsimp only at hK
                split at hK
                · rename_i z hz; exact fin z hz trivial hK
                · exact hK.elim

set_option maxHeartbeats 1000000 in
theorem is_ok (hφ : Good P φ) {ih : Task → St → T} {n : Nat} (hs : ∀ F w0, Sd P F w0 n ih) {s : St} {k k1 : Nat} {o : Oper} {v : V} {d : Hp} (h : Is P φ ih s k o v d k1) (hk : ∀ j, has s.h j → ¬ (k ≤ j ∧ j < k1))
    {β : Nat → Nat} {a : Act} {w : World} (H : HR F₀ w0 β s.h w) (hr : RE β s a) (next : Act → World → Prop) (Q : Exit → Act → World → Prop)
    (hn : ∀ β' w' x, HR F₀ w0 β' (d ++ s.h) w' → (∀ j, has s.h j → β' j = β j) → (v ≠ .u → x = den β' v) → (∀ j, j ∈ refs v → has (d ++ s.h) j) → next (a.put o.dst x) w') : o.wp P a w next Q := by
  unfold Is at h
  split at h
  · obtain ⟨p, hst, hp, rfl⟩ := h
    obtain ⟨β', w', r, hrun, out⟩ := step_ok hst (fun j hj => by have := hk j hj; omega) hp H hr
    unfold Oper.wp
    rw [hrun]
    rcases out.next with ⟨x, rfl, hx⟩ | ⟨rfl, rfl⟩
    · rw [Oper.upon_value]; exact hn β' w' x out.hr out.ext hx out.refs
    · rw [Oper.upon_skip]; exact hn β' w' undef out.hr out.ext (fun _ => rfl) out.refs
  · rename_i x args hvc
    obtain ⟨ts, ho⟩ := valueCall_of hvc
    obtain ⟨g, xs, ys, fn, c, ht, hnu, hf, hname, hb, h⟩ := h
    obtain ⟨hden, hxu, hbx, hby⟩ := target_den ht β
    have hx : a.eval x = .func (.func g) (denL β xs).toArray (denL β ys).toArray := (ev_ok hr x hxu).trans hden
    have hau : ∀ y ∈ args.toList, ev s y ≠ .u := fun y hy => all_notU hnu _ (by simp [evL]; exact .inr (.inl ⟨y, by simpa using hy, rfl⟩))
    have hargs : (denL β xs).toArray ++ args.map a.eval ++ (denL β ys).toArray = (denL β (xs ++ evL s args.toList ++ ys)).toArray := by
      rw [denL_append, denL_append, evL_den hr _ hau, ← Array.toList_map]
      simp
    have hexec : (execOp a.eval o).run P w = .ok (.enter g (denL β (xs ++ evL s args.toList ++ ys)).toArray) w := by
      simp only [execOp, ho, resolve, hx, Deferred.ofValue, Sem.run_bind, Sem.run_pure, Result.andThen_ok, invoke]
      rw [hargs]
      exact run_callFunc hf hname hb _ w
    unfold Oper.wp
    rw [hexec, Oper.upon_enter]
    generalize xs ++ evL s args.toList ++ ys = as at h hnu
    rcases h with ⟨r, vs, z, hsp, hvs, hz, rfl, rfl, rfl⟩ | ⟨h0, hres, hlt, _, hsat⟩
    · rw [valL_den β _ _ hvs]
      refine (hφ g r hsp vs z hz w).mono ?_
      rintro e w' ⟨rfl, hbel⟩
      exact hn β w' z (H.below hbel) (fun _ _ => rfl) (fun _ => (den_mk β _ _).symm) (by rw [refs_mk]; simp)
    · obtain ⟨hsub, hcl, htodo⟩ := restr_ok s.h _ _ _ _ hres (by intro j b hj; simp [lookB] at hj) (by intro j b hj; simp [lookB] at hj)
      refine calls_of_wp hf hb ?_
      refine hs (Handed β h0) w (.code c) _ _ hsat β _ w _ (H.frame hsub hcl) (enter_ok as htodo fn.ntmps k hlt) ?_
      rintro e s1 β' a' w' ⟨he, hz, hd, hk1, hkeys⟩ hat
      have fin : bodyPost P fn (fun
          | .returned v, w'' => next (a.put o.dst v) w''
          | .panicked chain, w'' => Q (.panic chain) a w''
          | .outgrown, _ => LetsOut Q) .normal a' w' := by
        obtain ⟨hrun, hbz⟩ := res_ok hat.hr hat.re hz
        refine ⟨hat.re.defers, _, hrun, ?_⟩
        obtain ⟨U1, U2, U3⟩ := H.unframe hsub hat.hr hat.ext hat.mono fun j hj => by
          rcases hkeys j hj with h2 | h2
          · exact .inl h2
          · exact .inr fun hh => hk j hh h2
        refine hn _ w' _ (U1.congr fun b => by rw [← hd]; exact squash_app _ _ _) U2 (fun _ => (den_congr _ _ v fun j hj => U3 j (hbz j hj)).symm) fun j hj => ?_
        rw [has_append, ← hd, squash_has]
        exact .inl (hbz j hj)
      cases e with
      | normal => exact fin
      | ret => exact fin
      | exit i => exact he.elim

/-! ### what an operation looks at -/
theorem elems_same {h h' : Hp} {sz : Nat} {v : V} (hs : ∀ j, j ∈ refs v → lookB h' j = lookB h j) : elems h' sz v = elems h sz v := by
  unfold elems
  split
  · rfl
  · rw [hs _ (by simp [refs])]
  · rw [hs _ (by simp [refs])]
  · rfl
theorem rowOf_same {h h' : Hp} {e : TypeId} {sz : Nat} {v : V} (hs : ∀ j, j ∈ refs v → lookB h' j = lookB h j) : rowOf h' e sz v = rowOf h e sz v := by
  unfold rowOf
  split
  · rfl
  · rw [hs _ (by simp [refs])]
  · rw [hs _ (by simp [refs])]
  · rfl

theorem evL_same {s s' : St} {xs : List Operand} (h : ∀ x ∈ xs, ev s' x = ev s x) : evL s' xs = evL s xs := List.map_congr_left h

theorem parts_same {s s' : St} {ps : List (Nat × Operand)} (h : ∀ x ∈ ps.map (·.2), ev s' x = ev s x) : (ps.map fun q => (q.1, ev s' q.2)) = ps.map fun q => (q.1, ev s q.2) :=
  List.map_congr_left fun q hq => by rw [h q.2 (List.mem_map.2 ⟨q, hq, rfl⟩)]

theorem step_same {s s' : St} {k : Nat} {o : Oper} (he : ∀ x ∈ o.op.operands, ev s' x = ev s x) (hl : ∀ j, j ∈ tch s o → lookB s'.h j = lookB s.h j) : step P s' k o = step P s k o := by
  obtain ⟨dst, op, ty, pos, after, guard⟩ := o
  dsimp only at he
  cases op with
  | move x => have h1 := he x (by simp [Op.operands]); simp only [step, h1]
  | assign x => have h1 := he x (by simp [Op.operands]); simp only [step, h1]
  | pick c x y => have h1 := he c (by simp [Op.operands]); have h2 := he x (by simp [Op.operands]); have h3 := he y (by simp [Op.operands]); simp only [step, h1, h2, h3]
  | alloc t => rfl
  | box t x => have h1 := he x (by simp [Op.operands]); simp only [step, h1]
  | build t ps =>
    have h1 := parts_same (s := s) (s' := s') (ps := ps.toList) (fun x hx => he x (by simpa [Op.operands] using hx))
    simp only [step, h1]
  | buildSlice t n ps =>
    have h1 := parts_same (s := s) (s' := s') (ps := ps.toList) (fun x hx => he x (by simpa [Op.operands] using hx))
    simp only [step, h1]
  | load t x =>
    have h1 := he x (by simp [Op.operands])
    simp only [step, h1]
    split
    · rename_i j o e
      rw [hl j (by simp [tch, e, refs])]
    · rfl
  | store t x y =>
    have h1 := he x (by simp [Op.operands])
    have h2 := he y (by simp [Op.operands])
    simp only [step, h1, h2]
    split
    · rename_i j o e
      rw [hl j (by simp [tch, e, refs])]
    · rfl
  | nilCheck x => have h1 := he x (by simp [Op.operands]); simp only [step, h1]
  | binOp op t x y yt => have h1 := he x (by simp [Op.operands]); have h2 := he y (by simp [Op.operands]); simp only [step, h1, h2]
  | unOp op t x => have h1 := he x (by simp [Op.operands]); simp only [step, h1]
  | convert a b x =>
    have h1 := he x (by simp [Op.operands])
    simp only [step, h1]
    rw [elems_same (fun j hj => hl j (by simpa [tch] using hj))]
  | makeFunc fn xs ys =>
    cases fn with
    | func g =>
      have h1 := evL_same (s := s) (s' := s') (xs := xs.toList) (fun x hx => he x (by simp only [Op.operands, Array.mem_append]; exact .inl (by simpa using hx)))
      have h2 := evL_same (s := s) (s' := s') (xs := ys.toList) (fun x hx => he x (by simp only [Op.operands, Array.mem_append]; exact .inr (by simpa using hx)))
      simp only [step, h1, h2]
    | _ => rfl
  | slice t x lo hi mx =>
    have h1 := he x (by simp [Op.operands])
    have h2 : ∀ (f : V → Option Int), lo.map (fun q => f (ev s' q)) = lo.map (fun q => f (ev s q)) := fun f => by
      cases lo with
      | none => rfl
      | some q => rw [Option.map_some, Option.map_some, he q (by simp [Op.operands])]
    have h3 : ∀ {α : Type} (f : V → Option α), hi.map (fun q => f (ev s' q)) = hi.map (fun q => f (ev s q)) := fun f => by
      cases hi with
      | none => rfl
      | some q => rw [Option.map_some, Option.map_some, he q (by simp [Op.operands])]
    simp only [step, h1, h2, h3]
    cases mx with
    | some m => rfl
    | none =>
      dsimp only
      split
      · rfl
      · congr 1
        funext q
        split
        · rename_i m j c n e1 e2
          rw [hl j (by simp [tch, e2, refs])]
        · rfl
      · rfl
  | fieldAddr t x i => have h1 := he x (by simp [Op.operands]); simp only [step, h1]
  | field t x i => have h1 := he x (by simp [Op.operands]); simp only [step, h1]
  | indexAddr t x y => have h1 := he x (by simp [Op.operands]); have h2 := he y (by simp [Op.operands]); simp only [step, h1, h2]
  | index t x y => have h1 := he x (by simp [Op.operands]); have h2 := he y (by simp [Op.operands]); simp only [step, h1, h2]
  | extract x i => have h1 := he x (by simp [Op.operands]); simp only [step, h1]
  | makeMap t r => cases r <;> rfl
  | insert t x y z =>
    have h1 := he x (by simp [Op.operands])
    have h2 := he y (by simp [Op.operands])
    have h3 := he z (by simp [Op.operands])
    simp only [step, h1, h2, h3]
    split
    · rename_i j e
      rw [hl j (by simp [tch, e, refs])]
    · rfl
  | lookup t x y ok =>
    cases ok with
    | true => rfl
    | false =>
      have h1 := he x (by simp [Op.operands])
      have h2 := he y (by simp [Op.operands])
      simp only [step, h1, h2]
      split
      · rename_i j e
        rw [hl j (by simp [tch, e, refs])]
      · rfl
  | call c =>
    obtain ⟨callee, args, ts⟩ := c
    cases callee with
    | builtin b =>
      have ha : ∀ x ∈ args.toList, ev s' x = ev s x := fun x hx => he x (by simp only [Op.operands, Call.operands, Array.mem_append]; exact .inr (by simpa using hx))
      have h1 := evL_same ha
      simp only [step]
      unfold builtinV
      rw [h1]
      split
      · rename_i x y hargs
        have hx := ha x (by rw [hargs]; simp)
        have hy := ha y (by rw [hargs]; simp)
        rw [hx, hy]
        have hl2 : ∀ j, j ∈ refs (ev s x) ∨ j ∈ refs (ev s y) → lookB s'.h j = lookB s.h j := fun j hj => hl j (by
          simp only [tch, hargs, evL, List.map_cons, List.map_nil, refsL, List.append_nil, List.mem_append]
          exact hj)
        unfold appendV
        simp only [elems_same (fun j hj => hl2 j (.inr hj)), rowOf_same (fun j hj => hl2 j (.inl hj))]
      · split
        · rfl
        · split
          · rename_i x hargs _
            rw [ha x (by rw [hargs]; simp)]
          · rfl
    | _ => rfl
  | _ => rfl

theorem is_same {ih : Task → St → T} {s s' : St} {k k1 : Nat} {o : Oper} {v : V} {d : Hp} (he : ∀ x ∈ o.op.operands, ev s' x = ev s x) (hl : ∀ j, j ∈ tch s o → lookB s'.h j = lookB s.h j) (h : Is P φ ih s k o v d k1) : Is P φ ih s' k o v d k1 := by
  unfold Is at h ⊢
  split at h
  · obtain ⟨p, hst, hp, hk⟩ := h
    exact ⟨p, by rw [step_same he hl]; exact hst, hp, hk⟩
  · rename_i x args hvc
    obtain ⟨ts, ho⟩ := valueCall_of hvc
    have h1 : ev s' x = ev s x := he x (by rw [ho]; simp [Op.operands, Call.operands])
    have h2 : evL s' args.toList = evL s args.toList := evL_same fun y hy => he y (by rw [ho]; simp only [Op.operands, Call.operands, Array.mem_append]; exact .inr (by simpa using hy))
    obtain ⟨g, xs, ys, fn, c, ht, hnu, hf, hname, hb, h⟩ := h
    refine ⟨g, xs, ys, fn, c, by rw [h1]; exact ht, by rw [h2]; exact hnu, hf, hname, hb, ?_⟩
    rw [h2]
    rcases h with h | ⟨h0, hres, hlt, hle, hsat⟩
    · exact .inl h
    · refine .inr ⟨h0, restr_same s.h s'.h _ _ _ _ hres fun j hj => hl j ?_, hlt, hle, hsat⟩
      simp only [tch, ho, ht, hres]
      exact (has_iff _ _).1 hj

theorem ev_same {all : Array Oper} {s s' : St} {o : Oper} (h : ∀ t ∈ opTmps all o, look s'.env t = look s.env t) : ∀ x ∈ o.op.operands, ev s' x = ev s x := by
  intro x hx
  cases x with
  | tmp t => exact h t (List.mem_append_right _ (List.mem_filterMap.2 ⟨.tmp t, by simpa using hx, rfl⟩))
  | _ => rfl

/-! ### a state from which operations -/
theorem lookB_key {d : Hp} {b : Nat} (h : b ∈ keysOf d) (h1 h2 : Hp) : lookB (d ++ h1) b = lookB (d ++ h2) b := by rw [lookB_append, lookB_append, if_pos h, if_pos h]
theorem lookB_nokey {d : Hp} {b : Nat} (h : ¬ b ∈ keysOf d) (h1 : Hp) : lookB (d ++ h1) b = lookB h1 b := by rw [lookB_append, if_neg h]

theorem look_after (s : St) (r : Rec) (t : Nat) : look (X.after s r).env t = if r.o.dst = some t then r.v else look s.env t := by
  unfold X.after put
  cases hd : r.o.dst with
  | none => simp
  | some d =>
    simp only [look]
    by_cases e : d = t
    · subst e; simp
    · rw [beq_ne e]; simp [e]
theorem h_after (s : St) (r : Rec) : (X.after s r).h = r.d ++ s.h := by unfold X.after put; cases r.o.dst <;> rfl
theorem n_after (s : St) (r : Rec) : (X.after s r).n = s.n := by unfold X.after put; cases r.o.dst <;> rfl
theorem nx_after (s : St) (r : Rec) : (X.after s r).nx = s.nx := by unfold X.after put; cases r.o.dst <;> rfl

theorem app_env (D D' : Nat → Bool) (t : Nat) : ∀ (tr : List Rec) (i : Nat) (s s' : St), look s.env t = look s'.env t → (∀ (j : Nat) (r : Rec), tr[j]? = some r → r.o.dst = some t → D (i + j) = D' (i + j)) → look (app D i tr s).env t = look (app D' i tr s').env t
  | [], i, s, s', h, _ => h
  | r :: tr, i, s, s', h, hd => by
    simp only [app]
    refine app_env D D' t tr (i + 1) _ _ ?_ fun j r' hj ht => by have := hd (j + 1) r' (by simpa using hj) ht; rw [show i + (j + 1) = i + 1 + j by omega] at this; exact this
    by_cases ht : r.o.dst = some t
    · have := hd 0 r rfl ht
      rw [Nat.add_zero] at this
      rw [this]
      cases D' i <;> simp [look_after, ht, h]
    · cases D i <;> cases D' i <;> simp [look_after, ht, h]

theorem app_h (D D' : Nat → Bool) (b : Nat) : ∀ (tr : List Rec) (i : Nat) (s s' : St), lookB s.h b = lookB s'.h b → (∀ (j : Nat) (r : Rec), tr[j]? = some r → b ∈ keysOf r.d → D (i + j) = D' (i + j)) → lookB (app D i tr s).h b = lookB (app D' i tr s').h b
  | [], i, s, s', h, _ => h
  | r :: tr, i, s, s', h, hd => by
    simp only [app]
    refine app_h D D' b tr (i + 1) _ _ ?_ fun j r' hj ht => by have := hd (j + 1) r' (by simpa using hj) ht; rw [show i + (j + 1) = i + 1 + j by omega] at this; exact this
    by_cases ht : b ∈ keysOf r.d
    · have := hd 0 r rfl ht
      rw [Nat.add_zero] at this
      rw [this]
      cases D' i
      · exact h
      · simp only [cond_true, h_after]; exact lookB_key ht _ _
    · cases D i <;> cases D' i <;> simp only [cond_true, cond_false, h_after, lookB_nokey ht, h]

theorem app_n (D : Nat → Bool) : ∀ (tr : List Rec) (i : Nat) (s : St), (app D i tr s).n = s.n ∧ (app D i tr s).nx = s.nx
  | [], _, _ => ⟨rfl, rfl⟩
  | r :: tr, i, s => by
    simp only [app]
    obtain ⟨h1, h2⟩ := app_n D tr (i + 1) (bif D i then X.after s r else s)
    rw [h1, h2]
    cases D i <;> simp [n_after, nx_after]

/-- The last to write a slot, or a block, has it. -/
theorem app_env_last (D : Nat → Bool) (t : Nat) : ∀ (tr : List Rec) (i : Nat) (s : St) (j : Nat) (r : Rec), tr[j]? = some r → r.o.dst = some t → D (i + j) = true →
    (∀ (j' : Nat) (r' : Rec), tr[j']? = some r' → r'.o.dst = some t → j' = j) → look (app D i tr s).env t = r.v
  | [], i, s, j, r, h, _, _, _ => by simp at h
  | r0 :: tr, i, s, j, r, h, ht, hD, hu => by
    simp only [app]
    cases j with
    | zero =>
      simp only [List.getElem?_cons_zero, Option.some.injEq] at h
      subst h
      rw [Nat.add_zero] at hD
      rw [hD]
      rw [app_env D (fun _ => false) t tr (i + 1) _ _ rfl (fun j' r' hj ht' => by have := hu (j' + 1) r' (by simpa using hj) ht'; omega)]
      have : ∀ (tr : List Rec) (i : Nat) (s : St), app (fun _ => false) i tr s = s := by
        intro tr
        induction tr with
        | nil => intro i s; rfl
        | cons _ _ ih => intro i s; simp only [app, cond_false]; exact ih _ _
      rw [this]
      simp [look_after, ht]
    | succ j =>
      refine app_env_last D t tr (i + 1) _ j r (by simpa using h) ht (by rw [show i + 1 + j = i + (j + 1) by omega]; exact hD) fun j' r' hj' ht' => ?_
      have := hu (j' + 1) r' (by simpa using hj') ht'
      omega

theorem app_h_last (D : Nat → Bool) (b : Nat) : ∀ (tr : List Rec) (i : Nat) (s : St) (j : Nat) (r : Rec), tr[j]? = some r → b ∈ keysOf r.d → D (i + j) = true →
    (∀ (j' : Nat) (r' : Rec), tr[j']? = some r' → b ∈ keysOf r'.d → j < j' → D (i + j') = false) → lookB (app D i tr s).h b = lookB r.d b
  | [], i, s, j, r, h, _, _, _ => by simp at h
  | r0 :: tr, i, s, j, r, h, ht, hD, hu => by
    simp only [app]
    cases j with
    | zero =>
      simp only [List.getElem?_cons_zero, Option.some.injEq] at h
      subst h
      rw [Nat.add_zero] at hD
      rw [hD]
      rw [app_h D (fun _ => false) b tr (i + 1) _ _ rfl (fun j' r' hj ht' => by have := hu (j' + 1) r' (by simpa using hj) ht' (by omega); rw [show i + 1 + j' = i + (j' + 1) by omega]; exact this)]
      have : ∀ (tr : List Rec) (i : Nat) (s : St), app (fun _ => false) i tr s = s := by
        intro tr
        induction tr with
        | nil => intro i s; rfl
        | cons _ _ ih => intro i s; simp only [app, cond_false]; exact ih _ _
      rw [this]
      simp only [cond_true, h_after, lookB_append, if_pos ht]
    | succ j =>
      refine app_h_last D b tr (i + 1) _ j r (by simpa using h) ht (by rw [show i + 1 + j = i + (j + 1) by omega]; exact hD) fun j' r' hj' ht' hlt => ?_
      have := hu (j' + 1) r' (by simpa using hj') ht' (by omega)
      rw [show i + 1 + j' = i + (j' + 1) by omega]; exact this

/-! ### the trace -/
theorem guard_same {all : Array Oper} {s s' : St} {o : Oper} (h : ∀ t ∈ opTmps all o, look s'.env t = look s.env t) : guardOf all s' o = guardOf all s o := by
  unfold guardOf
  split
  · rfl
  · rename_i j want hg
    split
    · rfl
    · rename_i tg htg
      rw [h tg (List.mem_append_left _ (by rw [hg]; simp [htg]))]

/-- What the trace says of an operation. -/
def RecOk (P : Program) (φ : Specs) (ih : Task → St → T) (all : Array Oper) (s : St) (k : Nat) (o : Oper) (r : Rec) : Prop :=
  r.o = o ∧ dstOk s o.dst = true ∧ r.k0 = k ∧ guardOf all s o = some r.on ∧
    (r.on = true → r.tc = tch s o ∧ r.pt = placeOf s o ∧ Is P φ ih s k o r.v r.d r.k1) ∧ (r.on = false → r.v = .c undef ∧ r.d = [] ∧ r.tc = [] ∧ r.pt = none ∧ r.k1 = k)

theorem app_zero (tr : List Rec) : ∀ (i : Nat) (s : St), app (fun j => decide (j < 0)) i tr s = s := by
  induction tr with
  | nil => intro i s; rfl
  | cons _ _ ih => intro i s; simp only [app]; rw [show decide (i < 0) = false by simp]; exact ih _ _

theorem app_succ (i : Nat) (tr : List Rec) : ∀ (m : Nat) (s : St), app (fun j => decide (j < i + 1)) (m + 1) tr s = app (fun j => decide (j < i)) m tr s := by
  induction tr with
  | nil => intro m s; rfl
  | cons _ _ ih => intro m s; simp only [app]; rw [ih (m + 1), show decide (m + 1 < i + 1) = decide (m < i) by simp]

theorem trace_sat {ih : Task → St → T} {all : Array Oper} {Q : Ex → St → Prop} : ∀ (l : List Oper) (k : Nat) (s : St) (K : List Rec → Nat → T), (traceT P φ ih all k l s K).sat Q →
    ∃ tr k', (K tr k').sat Q ∧ tr.length = l.length ∧ k ≤ k' ∧ ∀ (i : Nat) (o : Oper), l[i]? = some o → ∃ r, tr[i]? = some r ∧ RecOk P φ ih all (app (fun j => decide (j < i)) 0 tr s) r.k0 o r ∧ k ≤ r.k0 ∧ r.k1 ≤ k' ∧ r.k0 ≤ r.k1
  | [], k, s, K, h => ⟨[], k, h, rfl, Nat.le_refl _, fun i o ho => by simp at ho⟩
  | o :: l, k, s, K, h => by
    simp only [traceT] at h
    cases hd : dstOk s o.dst with
    | false => rw [hd] at h; exact h.elim
    | true =>
    rw [hd] at h
    simp only [cond_true] at h
    have go : ∀ (r : Rec), RecOk P φ ih all s k o r → k ≤ r.k1 → (traceT P φ ih all r.k1 l (X.after s r) fun tr k' => K (r :: tr) k').sat Q →
        ∃ tr k', (K tr k').sat Q ∧ tr.length = (o :: l).length ∧ k ≤ k' ∧ ∀ (i : Nat) (o' : Oper), (o :: l)[i]? = some o' → ∃ r, tr[i]? = some r ∧ RecOk P φ ih all (app (fun j => decide (j < i)) 0 tr s) r.k0 o' r ∧ k ≤ r.k0 ∧ r.k1 ≤ k' ∧ r.k0 ≤ r.k1 := by
      intro r hrok hk1 h
      obtain ⟨tr, k', h1, h2, h3, h4⟩ := trace_sat l r.k1 _ _ h
      have hk0 : r.k0 = k := hrok.2.2.1
      refine ⟨r :: tr, k', h1, by simp [h2], Nat.le_trans hk1 h3, fun i o' ho => ?_⟩
      cases i with
      | zero =>
        simp only [List.getElem?_cons_zero, Option.some.injEq] at ho
        subst ho
        refine ⟨r, rfl, ?_, by omega, h3, by omega⟩
        rw [app_zero, hk0]
        exact hrok
      | succ i =>
        obtain ⟨r', j1, j2, j3, j4, j5⟩ := h4 i o' (by simpa using ho)
        refine ⟨r', by simpa using j1, ?_, by omega, j4, j5⟩
        simp only [app, Nat.zero_lt_succ, decide_true, cond_true]
        rw [app_succ]
        exact j2
    split at h
    · exact h.elim
    · rename_i hg
      exact go ⟨o, .c undef, [], [], k, k, false, none⟩ ⟨rfl, hd, rfl, hg, fun e => Bool.noConfusion e, fun _ => ⟨rfl, rfl, rfl, rfl, rfl⟩⟩ (Nat.le_refl _) h
    · rename_i hg
      obtain ⟨v, d, k1, his, h⟩ := oneT_sat h
      have hk1 : k ≤ k1 := is_le his
      exact go ⟨o, v, d, tch s o, k, k1, true, placeOf s o⟩ ⟨rfl, hd, rfl, hg, fun _ => ⟨rfl, rfl, his⟩, fun e => Bool.noConfusion e⟩ hk1 h

theorem masks_get : ∀ (l : List Oper) (acc ms : List Nat), masks l acc = some ms → (∃ tl, ms = acc ++ tl) ∧ ms.length = acc.length + l.length ∧
    ∀ (i : Nat) (o : Oper), l[i]? = some o → (∀ e ∈ bound o, e.on < acc.length + i) ∧ ∀ j, (ms.getD (acc.length + i) 0).testBit j = true → ∃ e ∈ bound o, e.on = j ∨ (ms.getD e.on 0).testBit j = true
  | [], acc, ms, h => by
    simp only [masks, Option.some.injEq] at h
    subst h
    exact ⟨⟨[], by simp⟩, by simp, fun i o h => by simp at h⟩
  | o :: l, acc, ms, h => by
    simp only [masks] at h
    obtain ⟨hq, h⟩ := bif_some' h
    obtain ⟨⟨tl, h1⟩, h2, h3⟩ := masks_get l _ ms h
    refine ⟨⟨_ :: tl, by rw [h1]; simp; rfl⟩, by rw [h2]; simp; omega, fun i o' ho => ?_⟩
    cases i with
    | zero =>
      simp only [List.getElem?_cons_zero, Option.some.injEq] at ho
      subst ho
      have hedges : ∀ e ∈ bound o, e.on < acc.length := by
        intro e he
        have := List.all_eq_true.1 hq e he
        exact Nat.le_of_ble_eq_true this
      refine ⟨fun e he => by have := hedges e he; omega, fun j hj => ?_⟩
      have hm : ms.getD (acc.length + 0) 0 = (bound o).foldl (fun m e => m ||| 2 ^ e.on ||| acc.getD e.on 0) 0 := by
        rw [h1]; simp [List.getD_eq_getElem?_getD]
      rw [hm] at hj
      have hf : ∀ (es : List Edge) (m0 : Nat), (es.foldl (fun m e => m ||| 2 ^ e.on ||| acc.getD e.on 0) m0).testBit j = true → m0.testBit j = true ∨ ∃ e ∈ es, e.on = j ∨ (acc.getD e.on 0).testBit j = true := by
        intro es
        induction es with
        | nil => intro m0 h; exact .inl h
        | cons e es ih =>
          intro m0 h
          rcases ih _ h with h | ⟨e', he', h⟩
          · rw [Nat.testBit_or, Nat.testBit_or, Bool.or_eq_true, Bool.or_eq_true] at h
            rcases h with (h | h) | h
            · exact .inl h
            · rw [Nat.testBit_two_pow] at h
              exact .inr ⟨e, by simp, .inl (by simpa using h)⟩
            · exact .inr ⟨e, by simp, .inr h⟩
          · exact .inr ⟨e', by simp [he'], h⟩
      rcases hf _ 0 hj with h0 | ⟨e, he, h0⟩
      · simp at h0
      · refine ⟨e, he, h0.imp id fun h0 => ?_⟩
        have hlt := hedges e he
        rw [h1, List.append_assoc]
        rw [List.getD_eq_getElem?_getD, List.getElem?_append_left hlt, ← List.getD_eq_getElem?_getD]
        exact h0
    | succ i =>
      have := h3 i o' (by simpa using ho)
      simp only [List.length_append, List.length_singleton] at this
      rw [show acc.length + (i + 1) = acc.length + 1 + i by omega]
      exact this
end
end Go.Proofs.Ythmighgfefjcmaa.X
