/- What the reader finds is what the machine does. No condition. -/
import Derived.Test.YthmighgfefjcmaaEngC
import Derived.Scope
import Derived.LoopN
namespace Go.Proofs.Ythmighgfefjcmaa.X
open Go.RowKit

theorem T.sat_bind (t : T) (f : Ex → St → T) (K : Ex → St → Prop) : (t.bind f).sat K ↔ t.sat fun e s => (f e s).sat K := by
  induction t with
  | leaf e s => rfl
  | ite b x y ih1 ih2 => simp only [T.bind, T.sat, ih1, ih2]
  | req p x ih => simp only [T.bind, T.sat, ih]
  | fail => rfl
theorem T.sat_mono {t : T} {K K' : Ex → St → Prop} (h : t.sat K) (hk : ∀ e s, K e s → K' e s) : t.sat K' := by
  induction t with
  | leaf e s => exact hk e s h
  | ite b x y ih1 ih2 => exact ⟨fun hb => ih1 (h.1 hb), fun hb => ih2 (h.2 hb)⟩
  | req p x ih => exact ⟨h.1, ih h.2⟩
  | fail => exact h

def T.all (A : Ex → St → Prop) : T → Prop
  | .leaf e s => A e s
  | .ite _ x y => x.all A ∧ y.all A
  | .req _ x => x.all A
  | .fail => True

theorem T.all_bind {t : T} {f : Ex → St → T} {A B : Ex → St → Prop} (h : t.all B) (hf : ∀ e s, B e s → (f e s).all A) : (t.bind f).all A := by
  induction t with
  | leaf e s => exact hf e s h
  | ite b x y ih1 ih2 => exact ⟨ih1 h.1, ih2 h.2⟩
  | req p x ih => exact ih h
  | fail => trivial

def ex : Ex → Exit
  | .normal => .normal
  | .ret => .ret
  | .exit i => .exit i

/-- The contracts hold. -/
def Good (P : Program) (φ : Specs) : Prop :=
  ∀ g r, spec φ g = some r → ∀ vs z, r vs = some z → ∀ w, Calls P g vs.toArray w fun e w' => e = .returned z ∧ Below w.heap.size w w'

def holds (P : Program) (n : Nat) : Task → (Exit → Act → World → Prop) → Act → World → Prop
  | .code c, Q, a, w => c.wp P Q a w
  | .rounds c, Q, a, w => Code.rounds P c Q n a w
  | .ops l all _, Q, a, w => wpList P all Q l a w

section
variable {P : Program} {φ : Specs} {F : Nat → Prop} {w0 : World}

/-- What stands behind a leaf: the state is what the world holds; the blocks known before keep their numbers. -/
structure At (F : Nat → Prop) (w0 : World) (β : Nat → Nat) (s s' : St) (β' : Nat → Nat) (a' : Act) (w' : World) : Prop where
  hr : HR F w0 β' s'.h w'
  re : RE β' s' a'
  ext : ∀ j, has s.h j → β' j = β j
  mono : ∀ j, has s.h j → has s'.h j
  n : s'.n = s.n

def Sd (P : Program) (F : Nat → Prop) (w0 : World) (n : Nat) (ih : Task → St → T) : Prop :=
  ∀ task s K, (ih task s).sat K → ∀ β a w Q, HR F w0 β s.h w → RE β s a →
    (∀ e s' β' a' w', K e s' → At F w0 β s s' β' a' w' → Q (ex e) a' w') → holds P n task Q a w

theorem At.trans {β β' β'' : Nat → Nat} {s s' s'' : St} {a' a'' : Act} {w' w'' : World} (h : At F w0 β s s' β' a' w') (k : At F w0 β' s' s'' β'' a'' w'') : At F w0 β s s'' β'' a'' w'' :=
  ⟨k.hr, k.re, fun j hj => (k.ext j (h.mono j hj)).trans (h.ext j hj), fun j hj => k.mono j (h.mono j hj), k.n.trans h.n⟩

theorem beq_ne {k t : Nat} (h : ¬ k = t) : Nat.beq k t = false := by
  cases e : Nat.beq k t with
  | false => rfl
  | true => exact absurd (Nat.eq_of_beq_eq_true e) h

theorem getD_put {a : Act} {d t : Nat} {v : Value} (hd : d < a.tmps.size) : (a.put (some d) v).tmps.getD t undef = if t = d then v else a.tmps.getD t undef := by
  simp only [Act.put, Array.getD_eq_getD_getElem?, Array.getElem?_setIfInBounds]
  by_cases e : t = d
  · subst e; simp [hd]
  · rw [if_neg (by omega), if_neg e]

theorem RE.lay {β : Nat → Nat} {s : St} {a : Act} (h : RE β s a) {d : Option Tmp} (hd : dstOk s d = true) {x : V} {v : Value} (hx : x ≠ .u → v = den β x) (hb : ∀ j, j ∈ refs x → has s.h j) : RE β (X.put s d x) (a.put d v) := by
  cases d with
  | none => exact h
  | some d =>
    have hd' : d < s.n := Nat.le_of_ble_eq_true hd
    have hl : ∀ t, look (X.put s (some d) x).env t = if t = d then x else look s.env t := by
      intro t
      show (bif Nat.beq d t then x else look s.env t) = _
      by_cases e : t = d
      · subst e; rw [if_pos rfl, show Nat.beq t t = true by simp]; rfl
      · rw [if_neg e, beq_ne (fun e2 : d = t => e e2.symm)]; rfl
    refine ⟨h.defers, by simpa [Act.put, X.put] using h.size, fun t ht => ?_, fun t => ?_, h.fresh⟩
    · rw [hl] at ht ⊢
      rw [getD_put (by rw [h.size]; exact hd')]
      by_cases e : t = d
      · subst e; rw [if_pos rfl] at ht ⊢; rw [if_pos rfl]; exact ⟨hd', hx ht⟩
      · rw [if_neg e] at ht ⊢; rw [if_neg e]; exact h.val t ht
    · rw [hl]
      split
      · exact hb
      · exact h.wf t

theorem RE.mono {β β' : Nat → Nat} {s : St} {a : Act} (h : RE β s a) (h' : Hp) (nx : Nat) (he : ∀ j, has s.h j → β' j = β j) (hl : ∀ j, has s.h j → has h' j) (hf : ∀ j, has h' j → j < nx) : RE β' ⟨s.env, s.n, h', nx⟩ a :=
  ⟨h.defers, h.size, fun t ht => ⟨(h.val t ht).1, (h.val t ht).2.trans (den_congr β β' _ fun j hj => he j (h.wf t j hj)).symm⟩, fun t j hj => hl j (h.wf t j hj), hf⟩

theorem HR.below {β : Nat → Nat} {h : Hp} {w w' : World} (H : HR F w0 β h w) (hb : Below w.heap.size w w') : HR F w0 β h w' :=
  ⟨hb.os.trans H.os, hb.tape.trans H.tape, hb.output.trans H.output, Nat.le_trans H.size hb.size, fun k hk hF => (hb.block k (Nat.lt_of_lt_of_le hk H.size)).trans (H.keep k hk hF),
    fun j b hj hl => (H.blk j b hj hl).same (hb.block _ (H.lt hj hl)) fun _ _ => rfl, H.own, H.inj, H.wf⟩

theorem target_den {v : V} {g : FuncId} {xs ys : List V} (h : target v = some (g, xs, ys)) (β : Nat → Nat) : den β v = .func (.func g) (denL β xs).toArray (denL β ys).toArray ∧ v ≠ .u ∧ (∀ j, j ∈ refsL xs → j ∈ refs v) ∧ ∀ j, j ∈ refsL ys → j ∈ refs v := by
  unfold target at h
  split at h <;> simp only [Option.some.injEq, Prod.mk.injEq, reduceCtorEq] at h
  · obtain ⟨rfl, rfl, rfl⟩ := h
    simp [den, denL_mapc, refsL_mapc]
  · obtain ⟨rfl, rfl, rfl⟩ := h
    exact ⟨by simp [den], by simp, fun j hj => List.mem_append_left _ hj, fun j hj => List.mem_append_right _ hj⟩

theorem run_callFunc {g : FuncId} {fn : Func} {c : Code} (hf : P.funcs[g]? = some fn) (hn : (fn.name == "runtime.NumGoroutine") = false) (hb : fn.body = some c) (args : Array Value) (w : World) :
    (callFunc g args).run P w = .ok (.enter g args) w := by
  simp only [callFunc, Sem.run_bind, run_program, Result.andThen_ok, hf, hn, Bool.false_eq_true, if_false, hb]
  rfl

theorem denL_append (β : Nat → Nat) (xs ys : List V) : denL β (xs ++ ys) = denL β xs ++ denL β ys := by simp [denL_map]

theorem look_enter (xs : List V) (k t : Nat) : look (enterEnv.go xs k) t = if k ≤ t then (xs[t - k]?).getD .u else .u := by
  induction xs generalizing k with
  | nil => simp [enterEnv.go, look]
  | cons x xs ih =>
    simp only [enterEnv.go, look, ih]
    by_cases e : k = t
    · subst e; simp
    · rw [beq_ne e]
      simp only [cond_false]
      by_cases h : k ≤ t
      · rw [if_pos h, if_pos (by omega)]
        have : t - k = (t - (k + 1)) + 1 := by omega
        rw [this, List.getElem?_cons_succ]
      · rw [if_neg h, if_neg (by omega)]

theorem enter_ok {β : Nat → Nat} {h : Hp} (as : List V) (hb : ∀ j, j ∈ refsL as → has h j) (nt nx : Nat) (hf : ∀ j, has h j → j < nx) :
    RE β ⟨enterEnv as 0, Nat.max as.length nt, h, nx⟩ { tmps := (denL β as).toArray ++ Array.replicate (nt - (denL β as).toArray.size) undef, defers := [] } := by
  have hl : (denL β as).length = as.length := by rw [denL_map]; simp
  have hlook : ∀ t, look (enterEnv as 0) t = (as[t]?).getD .u := fun t => by
    rw [show enterEnv as 0 = enterEnv.go as 0 from rfl, look_enter]; simp
  refine ⟨rfl, ?_, fun t ht => ?_, fun t j hj => ?_, hf⟩
  · simp only [Array.size_append, List.size_toArray, Array.size_replicate, hl]
    have : Nat.max as.length nt = max as.length nt := rfl
    rw [this]; omega
  · dsimp only at ht ⊢
    rw [hlook] at ht ⊢
    cases hx : as[t]? with
    | none => rw [hx] at ht; exact absurd rfl ht
    | some x =>
      have htl := (List.getElem?_eq_some_iff.1 hx).1
      refine ⟨Nat.lt_of_lt_of_le htl (Nat.le_max_left _ _), ?_⟩
      rw [Array.getD_eq_getD_getElem?, Array.getElem?_append, if_pos (by simpa [hl] using htl)]
      simp [denL_map, hx]
  · dsimp only at hj
    rw [hlook] at hj
    cases hx : as[t]? with
    | none => rw [hx] at hj; simp [refs] at hj
    | some x => rw [hx] at hj; exact hb j (mem_refsL.2 ⟨x, List.mem_of_getElem? hx, hj⟩)

def resSem (tmps : Array Value) : ResultVar → Sem Value
  | .tmp t => pure (tmps.getD t undef)
  | .cell q t => do loadVar t (← asAddr (tmps.getD q undef))

theorem results_eq (fn : Func) (tmps : Array Value) : results fn tmps = (do let vs ← fn.results.mapM (resSem tmps); pure (if h : vs.size = 1 then vs[0] else .tuple vs)) := by
  unfold results
  congr 1

theorem resOne_ok {β : Nat → Nat} {s : St} {a : Act} {w : World} (H : HR F w0 β s.h w) (hr : RE β s a) {r : ResultVar} {x : V} (h : resOne P s r = some x) :
    (resSem a.tmps r).run P w = .ok (den β x) w ∧ ∀ j, j ∈ refs x → has s.h j := by
  cases r with
  | tmp t =>
    simp only [resOne] at h
    split at h
    · cases h
    · rename_i hne
      simp only [Option.some.injEq] at h
      subst h
      exact ⟨by rw [resSem, Sem.run_pure, (hr.val t (fun e => hne e)).2], hr.wf t⟩
  | cell q t =>
    simp only [resOne] at h
    split at h
    · rename_i j o hq
      obtain ⟨b, hb, hp⟩ := Option.bind_eq_some_iff.1 h
      obtain ⟨hl, hp⟩ := bif_some' hp
      have he : a.tmps.getD q undef = .pointer (some ⟨β j, o, none⟩) := (hr.val q (by rw [hq]; simp)).2.trans (by rw [hq]; rfl)
      refine ⟨?_, fun i hi => H.wf j b hb i (.inl ((partV_ok hp β w).2 i hi))⟩
      simp only [resSem, he, asAddr, Sem.run_bind, Sem.run_pure, Result.andThen_ok]
      exact loadVar_ok hp β w _ (H.blk j b hb (Kd.live_of_flat hl)) hl
    · cases h

theorem resL_ok {β : Nat → Nat} {s : St} {a : Act} {w : World} (H : HR F w0 β s.h w) (hr : RE β s a) : ∀ (l : List ResultVar) (xs : List V), resL P s l = some xs →
    (l.mapM (resSem a.tmps)).run P w = .ok (denL β xs) w ∧ ∀ j, j ∈ refsL xs → has s.h j
  | [], xs, h => by simp only [resL, Option.some.injEq] at h; subst h; exact ⟨rfl, by simp [refsL]⟩
  | r :: l, xs, h => by
    simp only [resL, Option.bind_eq_some_iff, Option.some.injEq] at h
    obtain ⟨x, hx, ys, hy, rfl⟩ := h
    obtain ⟨h1, h2⟩ := resOne_ok H hr hx
    obtain ⟨h3, h4⟩ := resL_ok H hr l ys hy
    refine ⟨?_, fun j hj => (List.mem_append.1 hj).elim (h2 j) (h4 j)⟩
    simp only [List.mapM_cons, Sem.run_bind, h1, Result.andThen_ok, h3, Sem.run_pure, denL]

theorem res_ok {β : Nat → Nat} {s : St} {a : Act} {w : World} (H : HR F w0 β s.h w) (hr : RE β s a) {fn : Func} {x : V} (h : X.res P fn s = some x) :
    (results fn a.tmps).run P w = .ok (den β x) w ∧ ∀ j, j ∈ refs x → has s.h j := by
  unfold X.res at h
  obtain ⟨xs, hxs, h⟩ := Option.bind_eq_some_iff.1 h
  obtain ⟨h1, h2⟩ := resL_ok H hr _ _ hxs
  have hrun : (results fn a.tmps).run P w = .ok (if h : (denL β xs).toArray.size = 1 then (denL β xs).toArray[0] else .tuple (denL β xs).toArray) w := by
    rw [results_eq, Sem.run_bind, Array.mapM_eq_mapM_toList, Sem.run_map, h1]
    rfl
  rw [hrun]
  split at h
  · simp only [Option.some.injEq] at h; subst h
    refine ⟨by simp [denL], fun j hj => h2 j (List.mem_append_left _ hj)⟩
  · rename_i hne
    simp only [Option.some.injEq] at h; subst h
    refine ⟨?_, h2⟩
    have hl : ¬ (denL β xs).toArray.size = 1 := by
      rw [List.size_toArray, denL_map, List.length_map]
      intro e
      obtain ⟨x, rfl⟩ := List.length_eq_one_iff.1 e
      exact hne x rfl
    rw [dif_neg hl]
    rfl
end
end Go.Proofs.Ythmighgfefjcmaa.X
