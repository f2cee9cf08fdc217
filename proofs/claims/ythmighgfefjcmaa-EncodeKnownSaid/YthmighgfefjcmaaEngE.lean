/- What the reader finds is what the machine does: calls, regions, code. No condition. -/
import Derived.Test.YthmighgfefjcmaaEngD
namespace Go.Proofs.Ythmighgfefjcmaa.X
open Go.RowKit

section
variable {P : Program} {φ : Specs} {F : Nat → Prop} {w0 : World}

theorem all_notU {as : List V} (h : as.all notU = true) : ∀ x ∈ as, x ≠ .u := by
  intro x hx e
  have := List.all_eq_true.1 h x hx
  rw [e] at this
  cases this

theorem valueCall_of {o : Op} {x : Operand} {args : Array Operand} (h : valueCall o = some (x, args)) : ∃ ts, o = .call { callee := .value x, args := args, argTypes := ts } := by
  unfold valueCall at h
  split at h
  · rename_i c
    obtain ⟨cl, as, ts⟩ := c
    dsimp only at h
    split at h
    · simp only [Option.some.injEq, Prod.mk.injEq] at h
      obtain ⟨rfl, rfl⟩ := h
      exact ⟨ts, rfl⟩
    · cases h
  · cases h

set_option maxHeartbeats 1000000 in
theorem oper_ok (hφ : Good P φ) {n : Nat} {ih : Task → St → T} (hs : Sd P F w0 n ih) {o : Oper} {s : St} {k : St → T} {K : Ex → St → Prop} (h : (oper P φ ih o s k).sat K)
    {β : Nat → Nat} {a : Act} {w : World} (H : HR F w0 β s.h w) (hr : RE β s a) (next : Act → World → Prop) (Q : Exit → Act → World → Prop)
    (hk : ∀ s' β' a' w', (k s').sat K → At F w0 β s s' β' a' w' → next a' w') : o.wp P a w next Q := by
  unfold oper at h
  cases hd : dstOk s o.dst with
  | false => rw [hd] at h; exact h.elim
  | true =>
  rw [hd] at h
  simp only [cond_true] at h
  split at h
  · rename_i x args hvc
    obtain ⟨ts, ho⟩ := valueCall_of hvc
    split at h
    · exact h.elim
    · rename_i g xs ys ht
      cases hnu : (xs ++ evL s args.toList ++ ys).all notU with
      | false => rw [hnu] at h; exact h.elim
      | true =>
      rw [hnu] at h
      simp only [cond_true] at h
      split at h
      · exact h.elim
      · rename_i fn hf
        cases hname : (fn.name == "runtime.NumGoroutine") with
        | true => rw [hname] at h; exact h.elim
        | false =>
        rw [hname] at h
        simp only [cond_false] at h
        split at h
        · exact h.elim
        · rename_i c hb
          obtain ⟨hden, hxu, hbx, hby⟩ := target_den ht β
          have hx : a.eval x = .func (.func g) (denL β xs).toArray (denL β ys).toArray := (ev_ok hr x hxu).trans hden
          have hau : ∀ y ∈ args.toList, ev s y ≠ .u := fun y hy => all_notU hnu _ (by simp [evL]; exact .inr (.inl ⟨y, by simpa using hy, rfl⟩))
          have hargs : (denL β xs).toArray ++ args.map a.eval ++ (denL β ys).toArray = (denL β (xs ++ evL s args.toList ++ ys)).toArray := by
            rw [denL_append, denL_append, evL_den hr _ hau, ← Array.toList_map]
            simp
          have hbd : ∀ j, j ∈ refsL (xs ++ evL s args.toList ++ ys) → has s.h j := by
            intro j hj
            rw [refsL_append, refsL_append, List.mem_append, List.mem_append] at hj
            rcases hj with (hj | hj) | hj
            · exact ev_refs hr x j (hbx j hj)
            · exact evL_refs hr _ j hj
            · exact ev_refs hr x j (hby j hj)
          have hexec : (execOp a.eval o).run P w = .ok (.enter g (denL β (xs ++ evL s args.toList ++ ys)).toArray) w := by
            simp only [execOp, ho, resolve, hx, Deferred.ofValue, Sem.run_bind, Sem.run_pure, Result.andThen_ok, invoke]
            rw [hargs]
            exact run_callFunc hf hname hb _ w
          unfold Oper.wp
          rw [hexec, Oper.upon_enter]
          generalize xs ++ evL s args.toList ++ ys = as at h hbd hnu
          split at h
          · rename_i r hsp
            split at h
            · rename_i vs hvs
              split at h
              · rename_i z hz
                rw [valL_den β _ _ hvs]
                refine (hφ g r hsp vs z hz w).mono ?_
                rintro e w' ⟨rfl, hbel⟩
                refine hk _ β _ w' h ⟨?_, hr.lay hd (fun _ => (den_mk β _ _).symm) (by rw [refs_mk]; simp), fun _ _ => rfl, ?_, ?_⟩
                · cases o.dst <;> exact H.below hbel
                · cases o.dst <;> exact fun _ h => h
                · cases o.dst <;> rfl
              · exact h.elim
            · exact h.elim
          · rw [T.sat_bind] at h
            refine calls_of_wp hf hb ?_
            refine hs (.code c) _ _ h β _ w _ H (enter_ok as hbd fn.ntmps s.nx hr.fresh) ?_
            intro e s' β' a' w' hK hat
            have fin : ∀ z, X.res P fn s' = some z → (k (X.put ⟨s.env, s.n, s'.h, s'.nx⟩ o.dst z)).sat K → bodyPost P fn (fun
                | .returned v, w'' => next (a.put o.dst v) w''
                | .panicked chain, w'' => Q (.panic chain) a w''
                | .outgrown, _ => LetsOut Q) .normal a' w' := by
              intro z hz hkz
              obtain ⟨hrun, hbz⟩ := res_ok hat.hr hat.re hz
              refine ⟨hat.re.defers, _, hrun, ?_⟩
              have hre : RE β' ⟨s.env, s.n, s'.h, s'.nx⟩ a := hr.mono s'.h s'.nx hat.ext hat.mono hat.re.fresh
              refine hk _ β' _ w' hkz ⟨?_, hre.lay (by cases hdst : o.dst with | none => rfl | some d => rw [hdst] at hd; exact hd) (fun _ => rfl) hbz, hat.ext, ?_, ?_⟩
              · cases o.dst <;> exact hat.hr
              · cases o.dst <;> exact hat.mono
              · cases o.dst <;> rfl
            cases e with
            | normal =>
              dsimp only at hK
              split at hK
              · rename_i z hz; exact fin z hz hK
              · exact hK.elim
            | ret =>
              dsimp only at hK
              split at hK
              · rename_i z hz; exact fin z hz hK
              · exact hK.elim
            | exit i => exact hK.elim
  · split at h
    · rename_i v d p hst
      have hask : (∀ q, p = some q → q) ∧ (k (X.put (X.lay s d) o.dst v)).sat K := by
        cases p with
        | none => exact ⟨fun q hq => (by cases hq), h⟩
        | some q => exact ⟨fun q' hq => (by injection hq with hq; subst hq; exact h.1), h.2⟩
      obtain ⟨hp, h⟩ := hask
      obtain ⟨β', w', r, hrun, out⟩ := step_ok hst (fun j hj => by have := hr.fresh j hj; omega) hp H hr
      have hmono : ∀ j, has s.h j → has (d ++ s.h) j := by
        intro j hj
        have : ∀ d : Hp, has (d ++ s.h) j := by
          intro d
          induction d with
          | nil => exact hj
          | cons b d ih => obtain ⟨k, b⟩ := b; exact (has_cons _ _ _ _).2 (.inr ih)
        exact this d
      have hre : RE β' (X.lay s d) a := hr.mono (d ++ s.h) (s.nx + 2) out.ext hmono fun j hj => by
        rcases out.keys j hj with h1 | h1 | h1
        · have := hr.fresh j h1; omega
        · omega
        · omega
      unfold Oper.wp
      rw [hrun]
      have hd' : dstOk (X.lay s d) o.dst = true := by
        cases hdst : o.dst with
        | none => rfl
        | some d => rw [hdst] at hd; exact hd
      rcases out.next with ⟨x, rfl, hx⟩ | ⟨rfl, rfl⟩
      · rw [Oper.upon_value]
        refine hk _ β' _ w' h ⟨?_, hre.lay hd' hx out.refs, out.ext, ?_, ?_⟩
        · cases o.dst <;> exact out.hr
        · cases o.dst <;> exact hmono
        · cases o.dst <;> rfl
      · rw [Oper.upon_skip]
        refine hk _ β' _ w' h ⟨?_, hre.lay hd' (fun _ => rfl) (by simp [X.refs]), out.ext, ?_, ?_⟩
        · cases o.dst <;> exact out.hr
        · cases o.dst <;> exact hmono
        · cases o.dst <;> rfl
    · exact h.elim
end
end Go.Proofs.Ythmighgfefjcmaa.X
