/- What the reader finds is what the machine does: the whole. No condition. -/
import Derived.Test.YthmighgfefjcmaaEngE
namespace Go.Proofs.Ythmighgfefjcmaa.X
open Go.RowKit

section
variable {P : Program} {φ : Specs} {F₀ : Nat → Prop} {w0 : World}

def Base (s0 : St) (e : Ex) (s' : St) : Prop :=
  e = .normal ∧ (∃ ne, s'.env = ne ++ s0.env) ∧ (∀ j b, lookB s0.h j = some b → lookB s'.h j = some b) ∧ s'.n = s0.n ∧ s0.nx ≤ s'.nx

theorem Base.put {s0 s : St} (h : Base s0 .normal s) (d : Option Tmp) (x : V) : Base s0 .normal (X.put s d x) := by
  obtain ⟨_, ⟨ne, h1⟩, h2⟩ := h
  cases d with
  | none => exact ⟨rfl, ⟨ne, h1⟩, h2⟩
  | some t => exact ⟨rfl, ⟨(t, x) :: ne, by show (t, x) :: s.env = _; rw [h1]; rfl⟩, h2⟩

theorem setN_suffix {m : Nat} {t : Nat} {y : V} {base : List (Nat × V)} (hm : base.length = m) : ∀ (ne e : List (Nat × V)), setN m (ne ++ base) t y = some e → ∃ ne', e = ne' ++ base := by
  intro ne
  induction ne with
  | nil =>
    intro e h
    simp only [List.nil_append] at h
    cases base with
    | nil => simp [setN] at h
    | cons b base =>
      obtain ⟨k, x⟩ := b
      unfold setN at h
      have : Nat.ble (base.length + 1) m = true := by subst hm; simp
      rw [this] at h
      cases h
  | cons b ne ih =>
    obtain ⟨k, x⟩ := b
    intro e h
    simp only [List.cons_append] at h
    unfold setN at h
    all_goals
      cases hb : Nat.ble ((ne ++ base).length + 1) m with
      | true => rw [hb] at h; cases h
      | false =>
        rw [hb] at h
        simp only [cond_false] at h
        cases he : Nat.beq k t with
        | true => rw [he] at h; simp only [cond_true, Option.some.injEq] at h; subst h; exact ⟨(k, y) :: ne, rfl⟩
        | false =>
          rw [he] at h
          simp only [cond_false, Option.bind_eq_some_iff, Option.some.injEq] at h
          obtain ⟨r, hr, rfl⟩ := h
          obtain ⟨ne', rfl⟩ := ih r hr
          exact ⟨(k, x) :: ne', rfl⟩

theorem setN_look {m : Nat} {t : Nat} {y : V} : ∀ (l e : List (Nat × V)), setN m l t y = some e → ∀ u, look e u = if u = t then y else look l u := by
  intro l
  induction l with
  | nil => intro e h; simp [setN] at h
  | cons b l ih =>
    obtain ⟨k, x⟩ := b
    intro e h u
    unfold setN at h
    cases hb : Nat.ble (l.length + 1) m with
    | true => rw [hb] at h; cases h
    | false =>
      rw [hb] at h
      simp only [cond_false] at h
      cases he : Nat.beq k t with
      | true =>
        have hk := Nat.eq_of_beq_eq_true he
        subst hk
        rw [he] at h; simp only [cond_true, Option.some.injEq] at h; subst h
        simp only [look]
        by_cases hu : u = k
        · subst hu; rw [he]; simp
        · rw [beq_ne (fun e2 => hu e2.symm)]; simp [hu]
      | false =>
        rw [he] at h
        simp only [cond_false, Option.bind_eq_some_iff, Option.some.injEq] at h
        obtain ⟨r, hr, rfl⟩ := h
        simp only [look]
        rw [ih r hr u]
        by_cases hu : k = u
        · subst hu
          have : ¬ k = t := fun e2 => by subst e2; simp at he
          simp [this]
        · rw [beq_ne hu]; simp

theorem step_calm {s : St} {k : Nat} {o : Oper} {v : V} {d : Hp} {p : Option Prop} (h : step P s k o = some (v, d, p)) (hc : calm φ o = true) : d = [] ∨ ∃ b, d = [(k, b)] := by
  obtain ⟨dst, op, ty, pos, after, guard⟩ := o
  cases op with
  | box t x => simp only [step, Option.bind_eq_some_iff, Option.some.injEq, Prod.mk.injEq] at h; obtain ⟨cs, _, _, rfl, _⟩ := h; exact .inr ⟨_, rfl⟩
  | alloc t => simp only [step, Option.bind_eq_some_iff, Option.some.injEq, Prod.mk.injEq] at h; obtain ⟨_, _, _, _, _, rfl, _⟩ := h; exact .inr ⟨_, rfl⟩
  | store => simp [calm] at hc
  | buildSlice t len parts =>
    simp only [step] at h
    split at h
    · simp only [Option.bind_eq_some_iff] at h
      obtain ⟨_, _, _, _, h⟩ := h
      replace h := (bif_some' h).2
      simp only [Option.bind_eq_some_iff, Option.some.injEq, Prod.mk.injEq] at h
      obtain ⟨_, _, _, rfl, _⟩ := h
      exact .inr ⟨_, rfl⟩
    · cases h
  | indexAddr t x ix =>
    simp only [step, Option.bind_eq_some_iff] at h
    obtain ⟨_, _, h⟩ := h
    split at h
    all_goals first
      | (cases h; done)
      | (replace h := (bif_some' h).2
         simp only [Option.bind_eq_some_iff, Option.some.injEq, Prod.mk.injEq] at h; obtain ⟨_, _, _, rfl, _⟩ := h; exact .inl rfl)
  | makeFunc fn xs ys =>
    cases fn <;> simp only [step, reduceCtorEq] at h
    replace h := (bif_some' h).2
    simp only [Option.some.injEq, Prod.mk.injEq] at h; exact .inl h.2.1.symm
  | pick =>
    simp only [step] at h
    split at h
    · rename_i q _
      cases q <;> simp only [Option.some.injEq, Prod.mk.injEq] at h <;> exact .inl h.2.1.symm
    · simp only [Option.some.injEq, Prod.mk.injEq] at h; exact .inl h.2.1.symm
    · cases h
  | fieldAddr =>
    simp only [step] at h
    split at h
    · simp only [Option.bind_eq_some_iff] at h
      obtain ⟨f, _, q, _, h⟩ := h
      cases hz : Nat.beq q.size 0 with
      | true => rw [hz] at h; cases h
      | false => rw [hz] at h; simp only [cond_false, Option.some.injEq, Prod.mk.injEq] at h; exact .inl h.2.1.symm
    · cases h
  | index =>
    simp only [step] at h
    split at h
    · simp only [Option.bind_eq_some_iff] at h
      obtain ⟨_, _, h⟩ := h
      split at h
      all_goals first
        | (cases h; done)
        | (replace h := (bif_some' h).2
           simp only [Option.bind_eq_some_iff, Option.some.injEq, Prod.mk.injEq] at h; obtain ⟨_, _, _, _, _, rfl, _⟩ := h; exact .inl rfl)
    · simp only [Option.bind_eq_some_iff, Option.some.injEq, Prod.mk.injEq] at h
      obtain ⟨_, _, _, _, _, rfl, _⟩ := h; exact .inl rfl
    · cases h
  | slice t x lo hi mx =>
    simp only [step] at h
    split at h
    · cases h
    · split at h
      · simp only [Option.bind_eq_some_iff] at h
        obtain ⟨_, _, h⟩ := h
        split at h
        · cases h
        · cases h
        · simp only [Option.bind_eq_some_iff, Option.some.injEq, Prod.mk.injEq] at h
          obtain ⟨_, _, _, rfl, _⟩ := h; exact .inl rfl
      · simp only [Option.bind_eq_some_iff] at h
        obtain ⟨_, _, h⟩ := h
        split at h
        · replace h := (bif_some' h).2
          simp only [Option.bind_eq_some_iff] at h
          obtain ⟨_, _, h⟩ := h
          split at h
          · replace h := (bif_some' h).2
            simp only [Option.some.injEq, Prod.mk.injEq] at h; exact .inl h.2.1.symm
          · cases h
        · cases h
      · cases h
  | call c =>
    obtain ⟨callee, args, ts⟩ := c
    cases callee with
    | builtin b =>
      simp only [step] at h
      unfold builtinV at h
      split at h
      · simp [calm] at hc
      · split at h
        · split at h
          · simp only [Option.some.injEq, Prod.mk.injEq] at h; exact .inl h.2.1.symm
          · cases h
        · split at h
          · split at h
            · split at h
              · simp only [Option.some.injEq, Prod.mk.injEq] at h; exact .inl h.2.1.symm
              · simp only [Option.some.injEq, Prod.mk.injEq] at h; exact .inl h.2.1.symm
              · cases h
            · cases h
          · cases h
    | _ => simp [step] at h
  | build t parts =>
    simp only [step, Option.bind_eq_some_iff] at h
    obtain ⟨_, _, _, _, h⟩ := h
    split at h
    · simp only [Option.bind_eq_some_iff, Option.some.injEq, Prod.mk.injEq] at h; obtain ⟨_, _, _, _, _, rfl, _⟩ := h; exact .inl rfl
    · simp only [Option.bind_eq_some_iff, Option.some.injEq, Prod.mk.injEq] at h; obtain ⟨_, _, _, _, _, rfl, _⟩ := h; exact .inl rfl
    · cases h
  | field t x i =>
    simp only [step, Option.bind_eq_some_iff] at h
    obtain ⟨_, _, h⟩ := h
    split at h
    all_goals first
      | (cases h; done)
      | (simp only [Option.bind_eq_some_iff, Option.some.injEq, Prod.mk.injEq] at h; obtain ⟨_, _, _, rfl, _⟩ := h; exact .inl rfl)
  | extract x i =>
    simp only [step] at h
    split at h
    all_goals first
      | (cases h; done)
      | (simp only [Option.bind_eq_some_iff, Option.some.injEq, Prod.mk.injEq] at h; obtain ⟨_, _, _, rfl, _⟩ := h; exact .inl rfl)
  | load t x =>
    simp only [step] at h
    split at h
    · simp only [Option.bind_eq_some_iff] at h
      obtain ⟨_, _, h⟩ := h
      replace h := (bif_some' h).2
      simp only [Option.bind_eq_some_iff, Option.some.injEq, Prod.mk.injEq] at h; obtain ⟨_, _, _, rfl, _⟩ := h; exact .inl rfl
    · cases h
  | nilCheck x =>
    simp only [step] at h
    split at h
    all_goals first
      | (cases h; done)
      | (simp only [Option.some.injEq, Prod.mk.injEq] at h; exact .inl h.2.1.symm)
  | move => simp only [step, Option.some.injEq, Prod.mk.injEq] at h; exact .inl h.2.1.symm
  | assign => simp only [step, Option.some.injEq, Prod.mk.injEq] at h; exact .inl h.2.1.symm
  | binOp => simp only [step, Option.bind_eq_some_iff, Option.some.injEq, Prod.mk.injEq] at h; obtain ⟨_, _, _, _, _, _, _, rfl, _⟩ := h; exact .inl rfl
  | unOp => simp only [step, Option.bind_eq_some_iff, Option.some.injEq, Prod.mk.injEq] at h; obtain ⟨_, _, _, _, _, rfl, _⟩ := h; exact .inl rfl
  | convert =>
    simp only [step] at h
    split at h
    · simp only [Option.bind_eq_some_iff, Option.some.injEq, Prod.mk.injEq] at h; obtain ⟨_, _, _, rfl, _⟩ := h; exact .inl rfl
    · split at h
      · split at h
        · simp only [Option.bind_eq_some_iff, Option.some.injEq, Prod.mk.injEq] at h; obtain ⟨_, _, _, _, _, rfl, _⟩ := h; exact .inl rfl
        · cases h
      · cases h
  | makeMap t r =>
    cases r with
    | some r => simp [step] at h
    | none =>
      simp only [step, Option.bind_eq_some_iff, Option.some.injEq, Prod.mk.injEq] at h
      obtain ⟨_, _, _, rfl, _⟩ := h
      exact .inr ⟨_, rfl⟩
  | insert => simp [calm] at hc
  | lookup t x y ok =>
    cases ok with
    | true => simp [step] at h
    | false =>
      simp only [step] at h
      split at h
      · simp only [Option.bind_eq_some_iff] at h
        obtain ⟨_, _, _, _, h⟩ := h
        split at h
        · split at h
          · simp only [Option.bind_eq_some_iff, Option.some.injEq, Prod.mk.injEq] at h
            obtain ⟨_, _, _, _, _, _, _, _, _, rfl, _⟩ := h
            exact .inl rfl
          · cases h
        · cases h
      · cases h
  | _ => simp [step] at h

theorem oper_all {s0 s : St} {ih : Task → St → T} {o : Oper} {k : St → T} {A : Ex → St → Prop} (hf0 : ∀ j, has s0.h j → j < s0.nx) (hb : Base s0 .normal s) (hc : calm φ o = true) (hk : ∀ s', Base s0 .normal s' → (k s').all A) : (oper P φ ih o s k).all A := by
  unfold oper
  cases dstOk s o.dst with
  | false => trivial
  | true =>
  simp only [cond_true]
  split
  · rename_i x args hvc
    obtain ⟨ts, ho⟩ := valueCall_of hvc
    split
    · trivial
    · rename_i g xs ys ht
      cases (xs ++ evL s args.toList ++ ys).all notU with
      | false => trivial
      | true =>
      simp only [cond_true]
      split
      · trivial
      · rename_i fn hf
        cases (fn.name == "runtime.NumGoroutine") with
        | true => trivial
        | false =>
        simp only [cond_false]
        split
        · trivial
        · split
          · split
            · split
              · exact hk _ (hb.put _ _)
              · trivial
            · trivial
          · rename_i hsp
            exfalso
            cases x with
            | func g' =>
              simp only [calm, ho] at hc
              simp only [target, ev, Option.some.injEq, Prod.mk.injEq] at ht
              obtain ⟨rfl, _⟩ := ht
              rw [hsp] at hc
              cases hc
            | _ => simp [calm, ho] at hc
  · split
    · rename_i v d p hst
      have hbase : Base s0 .normal (X.lay s d) := by
        obtain ⟨_, b1, b2, b3, b4⟩ := hb
        refine ⟨rfl, b1, fun j b hj => ?_, b3, Nat.le_trans b4 (by show s.nx ≤ s.nx + 2; omega)⟩
        show lookB (d ++ s.h) j = some b
        rcases step_calm hst hc with rfl | ⟨c, rfl⟩
        · exact b2 j b hj
        · show lookB ((s.nx, c) :: s.h) j = some b
          rw [lookB_cons, if_neg (by have := hf0 j ⟨b, hj⟩; omega)]
          exact b2 j b hj
      have hA := hk _ (Base.put hbase o.dst v)
      cases p with
      | none => exact hA
      | some q => exact hA
    · trivial

theorem ops_all (s0 : St) (hf0 : ∀ j, has s0.h j → j < s0.nx) (all : Array Oper) : ∀ n l s, Base s0 .normal s → l.all (calm φ) = true → (X P φ n (.ops l all s0.env.length) s).all (Base s0) := by
  intro n
  induction n with
  | zero => intro l s _ _; trivial
  | succ n ih =>
    intro l s hb hl
    cases l with
    | nil => exact hb
    | cons o rest =>
      simp only [List.all_cons, Bool.and_eq_true] at hl
      have hk : ∀ s', Base s0 .normal s' → (X P φ n (.ops rest all s0.env.length) s').all (Base s0) := fun s' h => ih rest s' h hl.2
      have hop := oper_all (P := P) (ih := X P φ n) hf0 hb hl.1 hk
      show (F P φ (X P φ n) (.ops (o :: rest) all s0.env.length) s).all _
      unfold F
      dsimp only
      split
      · exact hop
      · split
        · trivial
        · rename_i tg _
          split
          · split
            · exact hop
            · cases dstOk s o.dst with
              | false => trivial
              | true => exact hk _ (hb.put _ _)
          · cases dstOk s o.dst with
            | false => trivial
            | true => exact hk _ (hb.put _ _)
          · split
            · rename_i e1 e2 he1 he2
              obtain ⟨_, ⟨ne, b1⟩, b2⟩ := hb
              rw [b1] at he1 he2
              obtain ⟨n1, q1⟩ := setN_suffix rfl _ _ he1
              obtain ⟨n2, q2⟩ := setN_suffix rfl _ _ he2
              exact ⟨ih _ _ ⟨rfl, ⟨n1, q1⟩, b2⟩ (by simp [hl.1, hl.2]), ih _ _ ⟨rfl, ⟨n2, q2⟩, b2⟩ (by simp [hl.1, hl.2])⟩
            · trivial
          · trivial
end
end Go.Proofs.Ythmighgfefjcmaa.X
