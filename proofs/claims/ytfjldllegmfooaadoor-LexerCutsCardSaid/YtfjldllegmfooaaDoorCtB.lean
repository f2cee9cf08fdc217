/- Parts of the proof, laid together: EngD, EngE, EngF, EngH, EngI, EngG, EngK, EngJ, EngL, EngN. No condition. -/
import Derived.Test.YtfjldllegmfooaaDoorCtA
import Derived.Scope
import Derived.LoopN
import Derived.Orders

section
/- What the reader finds is what the machine does. No condition. -/
namespace Go.Proofs.YtfjldllegmfooaaDoor.X
open Go.RowKit

theorem T.sat_bind (t : T) (f : Ex → St → T) (K : Ex → St → Prop) : (t.bind f).sat K ↔ t.sat fun e s => (f e s).sat K := by
  induction t with
  | leaf e s => rfl
  | ite b x y ih1 ih2 => simp only [T.bind, T.sat, ih1, ih2]
  | req p x ih => simp only [T.bind, T.sat, ih]
  | fail => rfl
theorem T.sat_mono {t : T} {K K' : Ex → St → Prop} (h : t.sat K) (hk : ∀ e s, K e s → K' e s) : t.sat K' := by
  induction t with
  | leaf e s => exact hk e s h
  | ite b x y ih1 ih2 => exact ⟨fun hb => ih1 (h.1 hb), fun hb => ih2 (h.2 hb)⟩
  | req p x ih => exact ⟨h.1, ih h.2⟩
  | fail => exact h

def T.all (A : Ex → St → Prop) : T → Prop
  | .leaf e s => A e s
  | .ite _ x y => x.all A ∧ y.all A
  | .req _ x => x.all A
  | .fail => True

theorem T.all_bind {t : T} {f : Ex → St → T} {A B : Ex → St → Prop} (h : t.all B) (hf : ∀ e s, B e s → (f e s).all A) : (t.bind f).all A := by
  induction t with
  | leaf e s => exact hf e s h
  | ite b x y ih1 ih2 => exact ⟨ih1 h.1, ih2 h.2⟩
  | req p x ih => exact ih h
  | fail => trivial

def ex : Ex → Exit
  | .normal => .normal
  | .ret => .ret
  | .exit i => .exit i

/-- The last m slots' entries and the whole memory lie at the end of what came. -/
structure Keeps (m : Nat) (s s' : St) : Prop where
  env : ∃ ne, s'.env = ne ++ s.env.drop (s.env.length - m)
  h : ∃ d, s'.h = d ++ s.h
  nx : s.nx ≤ s'.nx
  n : s'.n = s.n

theorem Keeps.refl (m : Nat) (s : St) : Keeps m s s := ⟨⟨s.env.take (s.env.length - m), (List.take_append_drop _ _).symm⟩, ⟨[], rfl⟩, Nat.le_refl _, rfl⟩

theorem Keeps.len {m : Nat} {s s' : St} (h : Keeps m s s') (hm : m ≤ s.env.length) : m ≤ s'.env.length := by
  obtain ⟨ne, e⟩ := h.env
  rw [e, List.length_append, List.length_drop]
  omega

theorem Keeps.trans {m : Nat} {s s' s'' : St} (h : Keeps m s s') (k : Keeps m s' s'') (hm : m ≤ s.env.length) : Keeps m s s'' := by
  obtain ⟨ne, e⟩ := h.env
  obtain ⟨ne', e'⟩ := k.env
  obtain ⟨d, f⟩ := h.h
  obtain ⟨d', f'⟩ := k.h
  refine ⟨⟨ne', ?_⟩, ⟨d' ++ d, by rw [f', f, List.append_assoc]⟩, Nat.le_trans h.nx k.nx, k.n.trans h.n⟩
  rw [e']
  have hl : s'.env.length - m = ne.length := by rw [e, List.length_append, List.length_drop]; omega
  rw [hl, e, List.drop_left]

theorem Keeps.less {m m' : Nat} {s s' : St} (h : Keeps m s s') (hm : m ≤ s.env.length) (hm' : m' ≤ m) : Keeps m' s s' := by
  obtain ⟨ne, e⟩ := h.env
  refine ⟨⟨ne ++ (s.env.drop (s.env.length - m)).take (m - m'), ?_⟩, h.h, h.nx, h.n⟩
  rw [e, List.append_assoc]
  congr 1
  have : s.env.drop (s.env.length - m') = (s.env.drop (s.env.length - m)).drop (m - m') := by rw [List.drop_drop]; congr 1; omega
  rw [this, List.take_append_drop]

theorem Keeps.put {m : Nat} {s : St} (d : Option Tmp) (x : V) : Keeps m s (X.put s d x) := by
  cases d with
  | none => exact Keeps.refl m s
  | some t => exact ⟨⟨(t, x) :: s.env.take (s.env.length - m), by simp [X.put]⟩, ⟨[], rfl⟩, Nat.le_refl _, rfl⟩

theorem Keeps.lay {m : Nat} {s : St} (d : Hp) : Keeps m s (X.lay s d) :=
  ⟨⟨s.env.take (s.env.length - m), (List.take_append_drop _ _).symm⟩, ⟨d, rfl⟩, by show s.nx ≤ s.nx + 4; omega, rfl⟩

theorem T.all_any (t : T) : t.all fun _ _ => True := by
  induction t with
  | leaf => trivial
  | ite _ _ _ h1 h2 => exact ⟨h1, h2⟩
  | req _ _ h => exact h
  | fail => trivial

theorem T.all_mono {t : T} {A B : Ex → St → Prop} (h : t.all A) (hk : ∀ e s, A e s → B e s) : t.all B := by
  induction t with
  | leaf e s => exact hk e s h
  | ite b x y ih1 ih2 => exact ⟨ih1 h.1, ih2 h.2⟩
  | req p x ih => exact ih h
  | fail => trivial

/-- The loops of a code, and of a program. -/
def loops : Code → List Code
  | .seq a b => loops a ++ loops b
  | .cond _ a b => loops a ++ loops b
  | .block _ b => loops b
  | .loop b => b :: loops b
  | .scope b => loops b
  | _ => []
def allLoops (P : Program) : List Code := P.funcs.toList.flatMap fun fn => match fn.body with | some c => loops c | none => []

/-- A task's code is of the program. -/
def InP (P : Program) : Task → Prop
  | .code c => ∀ b ∈ loops c, b ∈ allLoops P
  | .fold c _ => ∀ b ∈ loops c, b ∈ allLoops P
  | .rounds c => ∀ b ∈ loops c, b ∈ allLoops P
  | .ops _ _ _ => True

theorem inP_body {P : Program} {g : FuncId} {fn : Func} {c : Code} (hf : P.funcs[g]? = some fn) (hb : fn.body = some c) (need : List Nat) : InP P (.fold c need) := by
  intro b hc
  unfold allLoops
  rw [List.mem_flatMap]
  exact ⟨fn, by obtain ⟨h1, h2⟩ := Array.getElem?_eq_some_iff.1 hf; rw [← h2]; simp, by rw [hb]; exact hc⟩

def holds (P : Program) (n : Nat) : Task → (Exit → Act → World → Prop) → Act → World → Prop
  | .code c, Q, a, w => c.wp P Q a w
  | .fold c _, Q, a, w => c.wp P Q a w
  | .rounds c, Q, a, w => Code.rounds P c Q n a w
  | .ops l all _, Q, a, w => wpList P all Q l a w

section
variable {P : Program} {φ : Specs} {F : Nat → Prop} {w0 : World}

/-- What stands behind a leaf: the state is what the world holds; the blocks known before keep their numbers. -/
structure At (F : Nat → Prop) (w0 : World) (β : Nat → Nat) (s s' : St) (β' : Nat → Nat) (a' : Act) (w' : World) : Prop where
  hr : HR F w0 β' s'.h w'
  re : RE β' s' a'
  ext : ∀ j, has s.h j → β' j = β j
  mono : ∀ j, has s.h j → has s'.h j
  n : s'.n = s.n

def Sd (P : Program) (F : Nat → Prop) (w0 : World) (n : Nat) (ih : Task → St → T) : Prop :=
  ∀ task s K, InP P task → (ih task s).sat K → ∀ β a w Q, HR F w0 β s.h w → RE β s a →
    (∀ e s' β' a' w', K e s' → At F w0 β s s' β' a' w' → Q (ex e) a' w') → holds P n task Q a w

/-- A call's way out: the answer in slot 0. -/
structure Ret (F : Nat → Prop) (w0 : World) (β : Nat → Nat) (h : Hp) (s' : St) (β' : Nat → Nat) (e : Ending) (w' : World) : Prop where
  val : ∃ x, e = .returned x ∧ (look s'.env 0 ≠ .u → x = den β' (look s'.env 0))
  hr : HR F w0 β' s'.h w'
  ext : ∀ j, has h j → β' j = β j
  mono : ∀ j, has h j → has s'.h j
  refs : ∀ j, j ∈ refs (look s'.env 0) → has s'.h j
  fresh : ∀ j, has s'.h j → j < s'.nx

/-- What a call comes to. -/
def CallOk (P : Program) (R : Bool → Addr → List PK → List (List Value) → Prop) (g : FuncId) (as : List V) (h : Hp) (nx : Nat) (t : T) : Prop :=
  (t.all fun _ s' => (∃ d, s'.h = d ++ h) ∧ nx ≤ s'.nx) ∧
  ∀ F w0 β w K, RomOk R F w0 → HR F w0 β h w → (∀ j, j ∈ refsL as → has h j) → (∀ j, has h j → j < nx) → t.sat K →
    Calls P g (denL β as).toArray w fun e w' => ∃ ex s' β', K ex s' ∧ Ret F w0 β h s' β' e w'

/-- What a loop comes to. -/
def LoopOk (P : Program) (R : Bool → Addr → List PK → List (List Value) → Prop) (b : Code) (s : St) (t : T) : Prop :=
  (t.all fun _ s' => Keeps s.env.length s s') ∧
  ∀ F w0 β a w K (Q : Exit → Act → World → Prop), RomOk R F w0 → HR F w0 β s.h w → RE β s a → t.sat K →
    (∀ e s' β' a' w', K e s' → At F w0 β s s' β' a' w' → Q (ex e) a' w') → (Code.loop b).wp P Q a w

/-- The contracts hold. -/
structure Good (P : Program) (φ : Specs) : Prop where
  fs : ∀ g r, spec φ g = some r → ∀ vs z, r vs = some z → ∀ w, GlW w → Calls P g vs.toArray w fun e w' => e = .returned z ∧ Below w.heap.size w w'
  cs : ∀ g r, cspec φ g = some r → ∀ as h nx t, r as h nx = some t → CallOk P φ.rom g as h nx t
  ls : ∀ b r, b ∈ allLoops P → lspec φ b = some r → ∀ s t, r s = some t → LoopOk P φ.rom b s t

theorem At.trans {β β' β'' : Nat → Nat} {s s' s'' : St} {a' a'' : Act} {w' w'' : World} (h : At F w0 β s s' β' a' w') (k : At F w0 β' s' s'' β'' a'' w'') : At F w0 β s s'' β'' a'' w'' :=
  ⟨k.hr, k.re, fun j hj => (k.ext j (h.mono j hj)).trans (h.ext j hj), fun j hj => k.mono j (h.mono j hj), k.n.trans h.n⟩

theorem beq_ne {k t : Nat} (h : ¬ k = t) : Nat.beq k t = false := by
  cases e : Nat.beq k t with
  | false => rfl
  | true => exact absurd (Nat.eq_of_beq_eq_true e) h

theorem getD_put {a : Act} {d t : Nat} {v : Value} (hd : d < a.tmps.size) : (a.put (some d) v).tmps.getD t undef = if t = d then v else a.tmps.getD t undef := by
  simp only [Act.put, Array.getD_eq_getD_getElem?, Array.getElem?_setIfInBounds]
  by_cases e : t = d
  · subst e; simp [hd]
  · rw [if_neg (by omega), if_neg e]

theorem RE.lay {β : Nat → Nat} {s : St} {a : Act} (h : RE β s a) {d : Option Tmp} (hd : dstOk s d = true) {x : V} {v : Value} (hx : x ≠ .u → v = den β x) (hb : ∀ j, j ∈ refs x → has s.h j) : RE β (X.put s d x) (a.put d v) := by
  cases d with
  | none => exact h
  | some d =>
    have hd' : d < s.n := Nat.le_of_ble_eq_true hd
    have hl : ∀ t, look (X.put s (some d) x).env t = if t = d then x else look s.env t := by
      intro t
      show (bif Nat.beq d t then x else look s.env t) = _
      by_cases e : t = d
      · subst e; rw [if_pos rfl, show Nat.beq t t = true by simp]; rfl
      · rw [if_neg e, beq_ne (fun e2 : d = t => e e2.symm)]; rfl
    refine ⟨h.defers, by simpa [Act.put, X.put] using h.size, fun t ht => ?_, fun t => ?_, h.fresh⟩
    · rw [hl] at ht ⊢
      rw [getD_put (by rw [h.size]; exact hd')]
      by_cases e : t = d
      · subst e; rw [if_pos rfl] at ht ⊢; rw [if_pos rfl]; exact ⟨hd', hx ht⟩
      · rw [if_neg e] at ht ⊢; rw [if_neg e]; exact h.val t ht
    · rw [hl]
      split
      · exact hb
      · exact h.wf t

theorem RE.mono {β β' : Nat → Nat} {s : St} {a : Act} (h : RE β s a) (h' : Hp) (nx : Nat) (he : ∀ j, has s.h j → β' j = β j) (hl : ∀ j, has s.h j → has h' j) (hf : ∀ j, has h' j → j < nx) : RE β' ⟨s.env, s.n, h', nx⟩ a :=
  ⟨h.defers, h.size, fun t ht => ⟨(h.val t ht).1, (h.val t ht).2.trans (den_congr β β' _ fun j hj => he j (h.wf t j hj)).symm⟩, fun t j hj => hl j (h.wf t j hj), hf⟩

theorem HR.below {β : Nat → Nat} {h : Hp} {w w' : World} (H : HR F w0 β h w) (hb : Below w.heap.size w w') : HR F w0 β h w' :=
  ⟨hb.os.trans H.os, hb.tape.trans H.tape, hb.output.trans H.output, Nat.le_trans H.size hb.size, fun k hk hF => (hb.block k (Nat.lt_of_lt_of_le hk H.size)).trans (H.keep k hk hF),
    fun _ _ hj hl => H.here_same hj hl (fun hon => ⟨rfl, hb.block _ (H.lt hj hon)⟩) fun _ _ => rfl, H.own, H.inj, H.wf⟩

theorem target_den {v : V} {g : FuncId} {xs ys : List V} (h : target v = some (g, xs, ys)) (β : Nat → Nat) : den β v = .func (.func g) (denL β xs).toArray (denL β ys).toArray ∧ v ≠ .u ∧ (∀ j, j ∈ refsL xs → j ∈ refs v) ∧ ∀ j, j ∈ refsL ys → j ∈ refs v := by
  unfold target at h
  split at h <;> simp only [Option.some.injEq, Prod.mk.injEq, reduceCtorEq] at h
  · obtain ⟨rfl, rfl, rfl⟩ := h
    simp [den, denL_mapc, refsL_mapc]
  · obtain ⟨rfl, rfl, rfl⟩ := h
    exact ⟨by simp [den], by simp, fun j hj => List.mem_append_left _ hj, fun j hj => List.mem_append_right _ hj⟩

theorem run_callFunc {g : FuncId} {fn : Func} {c : Code} (hf : P.funcs[g]? = some fn) (hn : (fn.name == "runtime.NumGoroutine") = false) (hb : fn.body = some c) (args : Array Value) (w : World) :
    (callFunc g args).run P w = .ok (.enter g args) w := by
  simp only [callFunc, Sem.run_bind, run_program, Result.andThen_ok, hf, hn, Bool.false_eq_true, if_false, hb]
  rfl

theorem look_enter (xs : List V) (k t : Nat) : look (enterEnv.go xs k) t = if k ≤ t then (xs[t - k]?).getD .u else .u := by
  induction xs generalizing k with
  | nil => simp [enterEnv.go, look]
  | cons x xs ih =>
    simp only [enterEnv.go, look, ih]
    by_cases e : k = t
    · subst e; simp
    · rw [beq_ne e]
      simp only [cond_false]
      by_cases h : k ≤ t
      · rw [if_pos h, if_pos (by omega)]
        have : t - k = (t - (k + 1)) + 1 := by omega
        rw [this, List.getElem?_cons_succ]
      · rw [if_neg h, if_neg (by omega)]

theorem enter_ok {β : Nat → Nat} {h : Hp} (as : List V) (hb : ∀ j, j ∈ refsL as → has h j) (nt nx : Nat) (hf : ∀ j, has h j → j < nx) :
    RE β ⟨enterEnv as 0, Nat.max as.length nt, h, nx⟩ { tmps := (denL β as).toArray ++ Array.replicate (nt - (denL β as).toArray.size) undef, defers := [] } := by
  have hl : (denL β as).length = as.length := by rw [denL_map]; simp
  have hlook : ∀ t, look (enterEnv as 0) t = (as[t]?).getD .u := fun t => by
    rw [show enterEnv as 0 = enterEnv.go as 0 from rfl, look_enter]; simp
  refine ⟨rfl, ?_, fun t ht => ?_, fun t j hj => ?_, hf⟩
  · simp only [Array.size_append, List.size_toArray, Array.size_replicate, hl]
    have : Nat.max as.length nt = max as.length nt := rfl
    rw [this]; omega
  · dsimp only at ht ⊢
    rw [hlook] at ht ⊢
    cases hx : as[t]? with
    | none => rw [hx] at ht; exact absurd rfl ht
    | some x =>
      have htl := (List.getElem?_eq_some_iff.1 hx).1
      refine ⟨Nat.lt_of_lt_of_le htl (Nat.le_max_left _ _), ?_⟩
      rw [Array.getD_eq_getD_getElem?, Array.getElem?_append, if_pos (by simpa [hl] using htl)]
      simp [denL_map, hx]
  · dsimp only at hj
    rw [hlook] at hj
    cases hx : as[t]? with
    | none => rw [hx] at hj; simp [refs] at hj
    | some x => rw [hx] at hj; exact hb j (mem_refsL.2 ⟨x, List.mem_of_getElem? hx, hj⟩)

def resSem (tmps : Array Value) : ResultVar → Sem Value
  | .tmp t => pure (tmps.getD t undef)
  | .cell q t => do loadVar t (← asAddr (tmps.getD q undef))

theorem results_eq (fn : Func) (tmps : Array Value) : results fn tmps = (do let vs ← fn.results.mapM (resSem tmps); pure (if h : vs.size = 1 then vs[0] else .tuple vs)) := by
  unfold results
  congr 1

theorem resOne_ok {β : Nat → Nat} {s : St} {a : Act} {w : World} (H : HR F w0 β s.h w) (hr : RE β s a) {r : ResultVar} {x : V} (h : resOne P s r = some x) :
    (resSem a.tmps r).run P w = .ok (den β x) w ∧ ∀ j, j ∈ refs x → has s.h j := by
  cases r with
  | tmp t =>
    simp only [resOne] at h
    split at h
    · cases h
    · rename_i hne
      simp only [Option.some.injEq] at h
      subst h
      exact ⟨by rw [resSem, Sem.run_pure, (hr.val t (fun e => hne e)).2], hr.wf t⟩
  | cell q t =>
    simp only [resOne] at h
    split at h
    · rename_i j o hq
      obtain ⟨b, hb, hp⟩ := Option.bind_eq_some_iff.1 h
      obtain ⟨hl, hp⟩ := bif_some' hp
      have he : a.tmps.getD q undef = .pointer (some ⟨β j, o, none⟩) := (hr.val q (by rw [hq]; simp)).2.trans (by rw [hq]; rfl)
      refine ⟨?_, fun i hi => H.wf j b hb i (.inl ((partV_ok hp β w).2 i hi))⟩
      simp only [resSem, he, asAddr, Sem.run_bind, Sem.run_pure, Result.andThen_ok]
      exact loadVar_ok hp β w _ (H.blk j b hb (Kd.live_of_flat hl)) hl
    · cases h

theorem resL_ok {β : Nat → Nat} {s : St} {a : Act} {w : World} (H : HR F w0 β s.h w) (hr : RE β s a) : ∀ (l : List ResultVar) (xs : List V), resL P s l = some xs →
    (l.mapM (resSem a.tmps)).run P w = .ok (denL β xs) w ∧ ∀ j, j ∈ refsL xs → has s.h j
  | [], xs, h => by simp only [resL, Option.some.injEq] at h; subst h; exact ⟨rfl, by simp [refsL]⟩
  | r :: l, xs, h => by
    simp only [resL, Option.bind_eq_some_iff, Option.some.injEq] at h
    obtain ⟨x, hx, ys, hy, rfl⟩ := h
    obtain ⟨h1, h2⟩ := resOne_ok H hr hx
    obtain ⟨h3, h4⟩ := resL_ok H hr l ys hy
    refine ⟨?_, fun j hj => (List.mem_append.1 hj).elim (h2 j) (h4 j)⟩
    simp only [List.mapM_cons, Sem.run_bind, h1, Result.andThen_ok, h3, Sem.run_pure, denL]

theorem res_ok {β : Nat → Nat} {s : St} {a : Act} {w : World} (H : HR F w0 β s.h w) (hr : RE β s a) {fn : Func} {x : V} (h : X.res P fn s = some x) :
    (results fn a.tmps).run P w = .ok (den β x) w ∧ ∀ j, j ∈ refs x → has s.h j := by
  unfold X.res at h
  obtain ⟨xs, hxs, h⟩ := Option.bind_eq_some_iff.1 h
  obtain ⟨h1, h2⟩ := resL_ok H hr _ _ hxs
  have hrun : (results fn a.tmps).run P w = .ok (if h : (denL β xs).toArray.size = 1 then (denL β xs).toArray[0] else .tuple (denL β xs).toArray) w := by
    rw [results_eq, Sem.run_bind, Array.mapM_eq_mapM_toList, Sem.run_map, h1]
    rfl
  rw [hrun]
  split at h
  · simp only [Option.some.injEq] at h; subst h
    refine ⟨by simp [denL], fun j hj => h2 j (List.mem_append_left _ hj)⟩
  · rename_i hne
    simp only [Option.some.injEq] at h; subst h
    refine ⟨?_, h2⟩
    have hl : ¬ (denL β xs).toArray.size = 1 := by
      rw [List.size_toArray, denL_map, List.length_map]
      intro e
      obtain ⟨x, rfl⟩ := List.length_eq_one_iff.1 e
      exact hne x rfl
    rw [dif_neg hl]
    rfl

theorem callT_ok (hφ : Good P φ) {n : Nat} {ih : Task → St → T} (hs : Sd P F w0 n ih) (hrom : RomOk φ.rom F w0) {g : FuncId} {fn : Func} {c : Code} (hf : P.funcs[g]? = some fn) (hb : fn.body = some c) {as : List V} {h : Hp} {nx : Nat} {K : Ex → St → Prop}
    (hK : (callT P φ ih g fn c as h nx).sat K) {β : Nat → Nat} {w : World} (H : HR F w0 β h w) (has_ : ∀ j, j ∈ refsL as → has h j) (hfr : ∀ j, has h j → j < nx) :
    Calls P g (denL β as).toArray w fun e w' => ∃ ex s' β', K ex s' ∧ Ret F w0 β h s' β' e w' := by
  unfold callT at hK
  split at hK
  · rename_i r hr
    split at hK
    · rename_i t ht
      exact (hφ.cs g r hr as h nx t ht).2 F w0 β w K hrom H has_ hfr hK
    · exact hK.elim
  · rw [T.sat_bind] at hK
    refine calls_of_wp hf hb ?_
    refine hs (.fold c (needOf fn)) _ _ (inP_body hf hb _) hK β _ w _ H (enter_ok as has_ fn.ntmps nx hfr) ?_
    intro e s' β' a' w' hK' hat
    have fin : ∀ z, X.res P fn s' = some z → K .ret ⟨[(0, z)], 1, s'.h, s'.nx⟩ → bodyPost P fn (fun e w' => ∃ ex s' β', K ex s' ∧ Ret F w0 β h s' β' e w') .normal a' w' := by
      intro z hz hkz
      obtain ⟨hrun, hbz⟩ := res_ok hat.hr hat.re hz
      refine ⟨hat.re.defers, _, hrun, .ret, _, β', hkz, ⟨_, rfl, fun _ => ?_⟩, hat.hr, hat.ext, hat.mono, ?_, hat.re.fresh⟩
      · simp [look]
      · simpa [look] using hbz
    cases e with
    | normal =>
      dsimp only at hK'
      split at hK'
      · rename_i z hz; exact fin z hz hK'
      · exact hK'.elim
    | ret =>
      dsimp only at hK'
      split at hK'
      · rename_i z hz; exact fin z hz hK'
      · exact hK'.elim
    | exit i => exact hK'.elim
end
end Go.Proofs.YtfjldllegmfooaaDoor.X
end

section
/- What the reader finds is what the machine does: calls, regions, code. No condition. -/
namespace Go.Proofs.YtfjldllegmfooaaDoor.X
open Go.RowKit

section
variable {P : Program} {φ : Specs} {F : Nat → Prop} {w0 : World}

theorem all_notU {as : List V} (h : as.all notU = true) : ∀ x ∈ as, x ≠ .u := by
  intro x hx e
  have := List.all_eq_true.1 h x hx
  rw [e] at this
  cases this

theorem valueCall_of {o : Op} {x : Operand} {args : Array Operand} (h : valueCall o = some (x, args)) : ∃ ts, o = .call { callee := .value x, args := args, argTypes := ts } := by
  unfold valueCall at h
  split at h
  · rename_i c
    obtain ⟨cl, as, ts⟩ := c
    dsimp only at h
    split at h
    · simp only [Option.some.injEq, Prod.mk.injEq] at h
      obtain ⟨rfl, rfl⟩ := h
      exact ⟨ts, rfl⟩
    · cases h
  · cases h

set_option maxHeartbeats 1000000 in
theorem oper_ok (hφ : Good P φ) {n : Nat} {ih : Task → St → T} (hs : Sd P F w0 n ih) (hrom : RomOk φ.rom F w0) {o : Oper} {s : St} {k : St → T} {K : Ex → St → Prop} (h : (oper P φ ih o s k).sat K)
    {β : Nat → Nat} {a : Act} {w : World} (H : HR F w0 β s.h w) (hr : RE β s a) (next : Act → World → Prop) (Q : Exit → Act → World → Prop)
    (hk : ∀ s' β' a' w', (k s').sat K → At F w0 β s s' β' a' w' → next a' w') : o.wp P a w next Q := by
  unfold oper at h
  cases hd : dstOk s o.dst with
  | false => rw [hd] at h; exact h.elim
  | true =>
  rw [hd] at h
  simp only [cond_true] at h
  split at h
  · rename_i x args hvc
    obtain ⟨ts, ho⟩ := valueCall_of hvc
    split at h
    · exact h.elim
    · rename_i g xs ys ht
      cases hnu : (xs ++ evL s args.toList ++ ys).all notU with
      | false => rw [hnu] at h; exact h.elim
      | true =>
      rw [hnu] at h
      simp only [cond_true] at h
      split at h
      · exact h.elim
      · rename_i fn hf
        cases hname : (fn.name == "runtime.NumGoroutine") with
        | true => rw [hname] at h; exact h.elim
        | false =>
        rw [hname] at h
        simp only [cond_false] at h
        split at h
        · exact h.elim
        · rename_i c hb
          obtain ⟨hden, hxu, hbx, hby⟩ := target_den ht β
          have hx : a.eval x = .func (.func g) (denL β xs).toArray (denL β ys).toArray := (ev_ok hr x hxu).trans hden
          have hau : ∀ y ∈ args.toList, ev s y ≠ .u := fun y hy => all_notU hnu _ (by simp [evL]; exact .inr (.inl ⟨y, by simpa using hy, rfl⟩))
          have hargs : (denL β xs).toArray ++ args.map a.eval ++ (denL β ys).toArray = (denL β (xs ++ evL s args.toList ++ ys)).toArray := by
            rw [denL_append, denL_append, evL_den hr _ hau, ← Array.toList_map]
            simp
          have hbd : ∀ j, j ∈ refsL (xs ++ evL s args.toList ++ ys) → has s.h j := by
            intro j hj
            rw [refsL_append, refsL_append, List.mem_append, List.mem_append] at hj
            rcases hj with (hj | hj) | hj
            · exact ev_refs hr x j (hbx j hj)
            · exact evL_refs hr _ j hj
            · exact ev_refs hr x j (hby j hj)
          have hexec : (execOp a.eval o).run P w = .ok (.enter g (denL β (xs ++ evL s args.toList ++ ys)).toArray) w := by
            simp only [execOp, ho, resolve, hx, Deferred.ofValue, Sem.run_bind, Sem.run_pure, Result.andThen_ok, invoke]
            rw [hargs]
            exact run_callFunc hf hname hb _ w
          unfold Oper.wp
          rw [hexec, Oper.upon_enter]
          generalize xs ++ evL s args.toList ++ ys = as at h hbd hnu
          split at h
          · rename_i r hsp
            split at h
            · rename_i vs hvs
              split at h
              · rename_i z hz
                rw [valL_den β _ _ hvs]
                refine (hφ.fs g r hsp vs z hz w (hrom.glw H)).mono ?_
                rintro e w' ⟨rfl, hbel⟩
                refine hk _ β _ w' h ⟨?_, hr.lay hd (fun _ => (den_mk β _ _).symm) (by rw [refs_mk]; simp), fun _ _ => rfl, ?_, ?_⟩
                · cases o.dst <;> exact H.below hbel
                · cases o.dst <;> exact fun _ h => h
                · cases o.dst <;> rfl
              · exact h.elim
            · exact h.elim
          · rw [T.sat_bind] at h
            refine (callT_ok hφ hs hrom hf hb h H hbd hr.fresh).mono ?_
            rintro e w' ⟨ex, s', β', hkz, ret⟩
            obtain ⟨x, rfl, hxv⟩ := ret.val
            have hre : RE β' ⟨s.env, s.n, s'.h, s'.nx⟩ a := hr.mono s'.h s'.nx ret.ext ret.mono ret.fresh
            refine hk _ β' _ w' hkz ⟨?_, hre.lay (by cases hdst : o.dst with | none => rfl | some d => rw [hdst] at hd; exact hd) hxv ret.refs, ret.ext, ?_, ?_⟩
            · cases o.dst <;> exact ret.hr
            · cases o.dst <;> exact ret.mono
            · cases o.dst <;> rfl
  · split at h
    · rename_i v d p hst
      have hask : (∀ q, p = some q → q) ∧ (k (X.put (X.lay s d) o.dst v)).sat K := by
        cases p with
        | none => exact ⟨fun q hq => (by cases hq), h⟩
        | some q => exact ⟨fun q' hq => (by injection hq with hq; subst hq; exact h.1), h.2⟩
      obtain ⟨hp, h⟩ := hask
      obtain ⟨β', w', r, hrun, out⟩ := step_ok hrom hst (fun j hj => by have := hr.fresh j hj; omega) hp H hr
      have hmono : ∀ j, has s.h j → has (d ++ s.h) j := by
        intro j hj
        have : ∀ d : Hp, has (d ++ s.h) j := by
          intro d
          induction d with
          | nil => exact hj
          | cons b d ih => obtain ⟨k, b⟩ := b; exact (has_cons _ _ _ _).2 (.inr ih)
        exact this d
      have hre : RE β' (X.lay s d) a := hr.mono (d ++ s.h) (s.nx + 4) out.ext hmono fun j hj => by
        show j < s.nx + 4
        rcases out.keys j hj with h1 | h1
        · have := hr.fresh j h1; omega
        · omega
      unfold Oper.wp
      rw [hrun]
      have hd' : dstOk (X.lay s d) o.dst = true := by
        cases hdst : o.dst with
        | none => rfl
        | some d => rw [hdst] at hd; exact hd
      rcases out.next with ⟨x, rfl, hx⟩ | ⟨rfl, rfl⟩
      · rw [Oper.upon_value]
        refine hk _ β' _ w' h ⟨?_, hre.lay hd' hx out.refs, out.ext, ?_, ?_⟩
        · cases o.dst <;> exact out.hr
        · cases o.dst <;> exact hmono
        · cases o.dst <;> rfl
      · rw [Oper.upon_skip]
        refine hk _ β' _ w' h ⟨?_, hre.lay hd' (fun _ => rfl) (by simp [X.refs]), out.ext, ?_, ?_⟩
        · cases o.dst <;> exact out.hr
        · cases o.dst <;> exact hmono
        · cases o.dst <;> rfl
    · exact h.elim
end
end Go.Proofs.YtfjldllegmfooaaDoor.X
end

section
/- What the reader finds is what the machine does: the whole. No condition. -/
namespace Go.Proofs.YtfjldllegmfooaaDoor.X
open Go.RowKit

section
variable {P : Program} {φ : Specs} {F₀ : Nat → Prop} {w0 : World}

def Base (s0 : St) (e : Ex) (s' : St) : Prop :=
  e = .normal ∧ (∃ ne, s'.env = ne ++ s0.env) ∧ (∀ j b, lookB s0.h j = some b → lookB s'.h j = some b) ∧ s'.n = s0.n ∧ s0.nx ≤ s'.nx

theorem Base.put {s0 s : St} (h : Base s0 .normal s) (d : Option Tmp) (x : V) : Base s0 .normal (X.put s d x) := by
  obtain ⟨_, ⟨ne, h1⟩, h2⟩ := h
  cases d with
  | none => exact ⟨rfl, ⟨ne, h1⟩, h2⟩
  | some t => exact ⟨rfl, ⟨(t, x) :: ne, by show (t, x) :: s.env = _; rw [h1]; rfl⟩, h2⟩

theorem setN_suffix {m : Nat} {t : Nat} {y : V} {base : List (Nat × V)} (hm : base.length = m) : ∀ (ne e : List (Nat × V)), setN m (ne ++ base) t y = some e → ∃ ne', e = ne' ++ base := by
  intro ne
  induction ne with
  | nil =>
    intro e h
    simp only [List.nil_append] at h
    cases base with
    | nil => simp [setN] at h
    | cons b base =>
      obtain ⟨k, x⟩ := b
      unfold setN at h
      have : Nat.ble (base.length + 1) m = true := by subst hm; simp
      rw [this] at h
      cases h
  | cons b ne ih =>
    obtain ⟨k, x⟩ := b
    intro e h
    simp only [List.cons_append] at h
    unfold setN at h
    all_goals
      cases hb : Nat.ble ((ne ++ base).length + 1) m with
      | true => rw [hb] at h; cases h
      | false =>
        rw [hb] at h
        simp only [cond_false] at h
        cases he : Nat.beq k t with
        | true => rw [he] at h; simp only [cond_true, Option.some.injEq] at h; subst h; exact ⟨(k, y) :: ne, rfl⟩
        | false =>
          rw [he] at h
          simp only [cond_false, Option.bind_eq_some_iff, Option.some.injEq] at h
          obtain ⟨r, hr, rfl⟩ := h
          obtain ⟨ne', rfl⟩ := ih r hr
          exact ⟨(k, x) :: ne', rfl⟩

theorem setN_look {m : Nat} {t : Nat} {y : V} : ∀ (l e : List (Nat × V)), setN m l t y = some e → ∀ u, look e u = if u = t then y else look l u := by
  intro l
  induction l with
  | nil => intro e h; simp [setN] at h
  | cons b l ih =>
    obtain ⟨k, x⟩ := b
    intro e h u
    unfold setN at h
    cases hb : Nat.ble (l.length + 1) m with
    | true => rw [hb] at h; cases h
    | false =>
      rw [hb] at h
      simp only [cond_false] at h
      cases he : Nat.beq k t with
      | true =>
        have hk := Nat.eq_of_beq_eq_true he
        subst hk
        rw [he] at h; simp only [cond_true, Option.some.injEq] at h; subst h
        simp only [look]
        by_cases hu : u = k
        · subst hu; rw [he]; simp
        · rw [beq_ne (fun e2 => hu e2.symm)]; simp [hu]
      | false =>
        rw [he] at h
        simp only [cond_false, Option.bind_eq_some_iff, Option.some.injEq] at h
        obtain ⟨r, hr, rfl⟩ := h
        simp only [look]
        rw [ih r hr u]
        by_cases hu : k = u
        · subst hu
          have : ¬ k = t := fun e2 => by subst e2; simp at he
          simp [this]
        · rw [beq_ne hu]; simp

theorem step_calm {s : St} {k : Nat} {o : Oper} {v : V} {d : Hp} {p : Option Prop} (h : step P φ s k o = some (v, d, p)) (hc : calm φ o = true) : d = [] ∨ ∃ b, d = [(k, b)] := by
  obtain ⟨dst, op, ty, pos, after, guard⟩ := o
  cases op with
  | box t x => simp only [step, Option.bind_eq_some_iff, Option.some.injEq, Prod.mk.injEq] at h; obtain ⟨cs, _, _, rfl, _⟩ := h; exact .inr ⟨_, rfl⟩
  | alloc t => simp only [step, Option.bind_eq_some_iff, Option.some.injEq, Prod.mk.injEq] at h; obtain ⟨_, _, _, _, _, rfl, _⟩ := h; exact .inr ⟨_, rfl⟩
  | store => simp [calm] at hc
  | buildSlice t len parts =>
    simp only [step] at h
    split at h
    · simp only [Option.bind_eq_some_iff] at h
      obtain ⟨_, _, _, _, h⟩ := h
      replace h := (bif_some' h).2
      simp only [Option.bind_eq_some_iff, Option.some.injEq, Prod.mk.injEq] at h
      obtain ⟨_, _, _, rfl, _⟩ := h
      exact .inr ⟨_, rfl⟩
    · cases h
  | indexAddr t x ix =>
    simp only [step] at h
    split at h
    · rename_i r hr
      simp only [Option.some.injEq] at h
      subst h
      unfold idxC at hr
      simp only [Option.bind_eq_some_iff] at hr
      obtain ⟨_, _, h⟩ := hr
      split at h
      all_goals first
        | (cases h; done)
        | (replace h := (bif_some' h).2
           simp only [Option.bind_eq_some_iff, Option.some.injEq, Prod.mk.injEq] at h; obtain ⟨_, _, _, rfl, _⟩ := h; exact .inl rfl)
    · unfold idxO at h
      simp only [Option.bind_eq_some_iff] at h
      obtain ⟨_, _, h⟩ := h
      split at h
      · simp only [Option.bind_eq_some_iff] at h
        obtain ⟨_, _, _, _, h⟩ := h
        split at h
        · replace h := (bif_some' h).2
          simp only [Option.some.injEq, Prod.mk.injEq] at h; exact .inl h.2.1.symm
        · cases h
      · simp only [Option.bind_eq_some_iff] at h
        obtain ⟨_, _, h⟩ := h
        replace h := (bif_some' h).2
        simp only [Option.some.injEq, Prod.mk.injEq] at h; exact .inl h.2.1.symm
      · simp only [Option.bind_eq_some_iff] at h
        obtain ⟨_, _, h⟩ := h
        replace h := (bif_some' h).2
        simp only [Option.some.injEq, Prod.mk.injEq] at h; exact .inl h.2.1.symm
      · cases h
  | makeFunc fn xs ys =>
    cases fn <;> simp only [step, reduceCtorEq] at h
    replace h := (bif_some' h).2
    simp only [Option.some.injEq, Prod.mk.injEq] at h; exact .inl h.2.1.symm
  | pick =>
    simp only [step] at h
    split at h
    · rename_i q _
      cases q <;> simp only [Option.some.injEq, Prod.mk.injEq] at h <;> exact .inl h.2.1.symm
    · simp only [Option.some.injEq, Prod.mk.injEq] at h; exact .inl h.2.1.symm
    · cases h
  | fieldAddr =>
    simp only [step, Option.bind_eq_some_iff] at h
    obtain ⟨f, _, q, _, h⟩ := h
    cases hz : Nat.beq q.size 0 with
    | true => rw [hz] at h; cases h
    | false =>
      rw [hz] at h
      simp only [cond_false] at h
      split at h
      all_goals first
        | (cases h; done)
        | (simp only [Option.some.injEq, Prod.mk.injEq] at h; exact .inl h.2.1.symm)
  | index =>
    simp only [step] at h
    split at h
    · split at h
      · simp only [Option.bind_eq_some_iff] at h
        obtain ⟨_, _, _, _, _, _, h⟩ := h
        replace h := (bif_some' h).2
        simp only [Option.bind_eq_some_iff, Option.some.injEq, Prod.mk.injEq] at h; obtain ⟨_, _, _, rfl, _⟩ := h; exact .inl rfl
      split at h
      all_goals first
        | (cases h; done)
        | (replace h := (bif_some' h).2
           simp only [Option.bind_eq_some_iff, Option.some.injEq, Prod.mk.injEq] at h; obtain ⟨_, _, _, _, _, rfl, _⟩ := h; exact .inl rfl)
    · simp only [Option.bind_eq_some_iff, Option.some.injEq, Prod.mk.injEq] at h
      obtain ⟨_, _, _, _, _, rfl, _⟩ := h; exact .inl rfl
    · cases h
  | slice t x lo hi mx =>
    cases lo with
    | none => simp [calm] at hc
    | some lo =>
    simp only [step] at h
    split at h
    · cases h
    · split at h
      · simp only [Option.bind_eq_some_iff] at h
        obtain ⟨_, _, h⟩ := h
        split at h
        · cases h
        · cases h
        · simp only [Option.bind_eq_some_iff, Option.some.injEq, Prod.mk.injEq] at h
          obtain ⟨_, _, _, rfl, _⟩ := h; exact .inl rfl
      · simp [Option.bind_eq_some_iff] at h
      · cases h
  | call c =>
    obtain ⟨callee, args, ts⟩ := c
    cases callee with
    | builtin b =>
      simp only [step] at h
      unfold builtinV at h
      split at h
      · simp [calm] at hc
      · split at h
        · split at h
          · simp only [Option.some.injEq, Prod.mk.injEq] at h; exact .inl h.2.1.symm
          · cases h
        · split at h
          · split at h
            · split at h
              all_goals first
                | (cases h; done)
                | (simp only [Option.some.injEq, Prod.mk.injEq] at h; exact .inl h.2.1.symm)
            · cases h
          · cases h
    | _ => simp [step] at h
  | build t parts =>
    simp only [step, Option.bind_eq_some_iff] at h
    obtain ⟨_, _, _, _, h⟩ := h
    split at h
    · simp only [Option.bind_eq_some_iff, Option.some.injEq, Prod.mk.injEq] at h; obtain ⟨_, _, _, _, _, rfl, _⟩ := h; exact .inl rfl
    · simp only [Option.bind_eq_some_iff, Option.some.injEq, Prod.mk.injEq] at h; obtain ⟨_, _, _, _, _, rfl, _⟩ := h; exact .inl rfl
    · cases h
  | field t x i =>
    simp only [step, Option.bind_eq_some_iff] at h
    obtain ⟨_, _, h⟩ := h
    split at h
    all_goals first
      | (cases h; done)
      | (simp only [Option.bind_eq_some_iff, Option.some.injEq, Prod.mk.injEq] at h; obtain ⟨_, _, _, rfl, _⟩ := h; exact .inl rfl)
  | extract x i =>
    simp only [step] at h
    split at h
    all_goals first
      | (cases h; done)
      | (simp only [Option.bind_eq_some_iff, Option.some.injEq, Prod.mk.injEq] at h; obtain ⟨_, _, _, rfl, _⟩ := h; exact .inl rfl)
  | load t x =>
    simp only [step] at h
    split at h
    · simp only [Option.bind_eq_some_iff] at h
      obtain ⟨_, _, h⟩ := h
      replace h := (bif_some' h).2
      simp only [Option.bind_eq_some_iff, Option.some.injEq, Prod.mk.injEq] at h; obtain ⟨_, _, _, rfl, _⟩ := h; exact .inl rfl
    · simp only [Option.bind_eq_some_iff] at h
      obtain ⟨_, _, h⟩ := h
      split at h
      · replace h := (bif_some' h).2
        simp only [Option.bind_eq_some_iff, Option.some.injEq, Prod.mk.injEq] at h; obtain ⟨_, _, _, rfl, _⟩ := h; exact .inl rfl
      · cases h
    · simp only [Option.bind_eq_some_iff, Option.some.injEq, Prod.mk.injEq] at h; obtain ⟨_, _, _, rfl, _⟩ := h; exact .inl rfl
    · simp only [Option.bind_eq_some_iff] at h
      obtain ⟨_, _, h⟩ := h
      replace h := (bif_some' h).2
      simp only [Option.bind_eq_some_iff, Option.some.injEq, Prod.mk.injEq] at h; obtain ⟨_, _, _, rfl, _⟩ := h; exact .inl rfl
    · cases h
  | nilCheck x =>
    simp only [step] at h
    split at h
    all_goals first
      | (cases h; done)
      | (simp only [Option.some.injEq, Prod.mk.injEq] at h; exact .inl h.2.1.symm)
  | move => simp only [step, Option.some.injEq, Prod.mk.injEq] at h; exact .inl h.2.1.symm
  | assign => simp only [step, Option.some.injEq, Prod.mk.injEq] at h; exact .inl h.2.1.symm
  | binOp =>
    simp only [step] at h
    split at h
    · simp only [Option.some.injEq, Prod.mk.injEq] at h; exact .inl h.2.1.symm
    · simp only [Option.bind_eq_some_iff] at h
      obtain ⟨_, _, _, _, h⟩ := h
      split at h
      · simp only [Option.some.injEq, Prod.mk.injEq] at h; exact .inl h.2.1.symm
      · simp only [Option.bind_eq_some_iff, Option.some.injEq, Prod.mk.injEq] at h; obtain ⟨_, _, _, rfl, _⟩ := h; exact .inl rfl
  | makeSlice => simp [calm] at hc
  | unOp => simp only [step, Option.bind_eq_some_iff, Option.some.injEq, Prod.mk.injEq] at h; obtain ⟨_, _, _, _, _, rfl, _⟩ := h; exact .inl rfl
  | convert =>
    simp only [step] at h
    split at h
    · simp only [Option.bind_eq_some_iff, Option.some.injEq, Prod.mk.injEq] at h; obtain ⟨_, _, _, rfl, _⟩ := h; exact .inl rfl
    · split at h
      · split at h
        · split at h
          · simp only [Option.bind_eq_some_iff] at h
            obtain ⟨_, _, h⟩ := h
            split at h
            · replace h := (bif_some' h).2
              simp only [Option.some.injEq, Prod.mk.injEq] at h; exact .inl h.2.1.symm
            · cases h
          · replace h := (bif_some' h).2
            simp only [Option.some.injEq, Prod.mk.injEq] at h; exact .inl h.2.1.symm
          · simp only [Option.bind_eq_some_iff, Option.some.injEq, Prod.mk.injEq] at h; obtain ⟨_, _, _, _, _, rfl, _⟩ := h; exact .inl rfl
        · cases h
      · cases h
  | makeMap t r =>
    cases r with
    | some r => simp [step] at h
    | none =>
      simp only [step, Option.bind_eq_some_iff, Option.some.injEq, Prod.mk.injEq] at h
      obtain ⟨_, _, _, rfl, _⟩ := h
      exact .inr ⟨_, rfl⟩
  | insert => simp [calm] at hc
  | lookup t x y ok =>
    cases ok with
    | true =>
      simp only [step] at h
      split at h
      · simp only [Option.bind_eq_some_iff] at h
        obtain ⟨_, _, _, _, h⟩ := h
        split at h
        · simp only [Option.bind_eq_some_iff] at h
          obtain ⟨_, _, _, _, _, _, h⟩ := h
          split at h
          · simp only [Option.some.injEq, Prod.mk.injEq] at h; exact .inl h.2.1.symm
          · simp only [Option.some.injEq, Prod.mk.injEq] at h; exact .inl h.2.1.symm
          · cases h
        · cases h
      · cases h
    | false =>
      simp only [step] at h
      split at h
      · simp only [Option.bind_eq_some_iff] at h
        obtain ⟨_, _, _, _, h⟩ := h
        split at h
        · split at h
          · simp only [Option.bind_eq_some_iff, Option.some.injEq, Prod.mk.injEq] at h
            obtain ⟨_, _, _, _, _, _, _, _, _, rfl, _⟩ := h
            exact .inl rfl
          · cases h
        · cases h
      · cases h
  | _ => simp [step] at h

theorem oper_all {s0 s : St} {ih : Task → St → T} {o : Oper} {k : St → T} {A : Ex → St → Prop} (hf0 : ∀ j, has s0.h j → j < s0.nx) (hb : Base s0 .normal s) (hc : calm φ o = true) (hk : ∀ s', Base s0 .normal s' → (k s').all A) : (oper P φ ih o s k).all A := by
  unfold oper
  cases dstOk s o.dst with
  | false => trivial
  | true =>
  simp only [cond_true]
  split
  · rename_i x args hvc
    obtain ⟨ts, ho⟩ := valueCall_of hvc
    split
    · trivial
    · rename_i g xs ys ht
      cases (xs ++ evL s args.toList ++ ys).all notU with
      | false => trivial
      | true =>
      simp only [cond_true]
      split
      · trivial
      · rename_i fn hf
        cases (fn.name == "runtime.NumGoroutine") with
        | true => trivial
        | false =>
        simp only [cond_false]
        split
        · trivial
        · split
          · split
            · split
              · exact hk _ (hb.put _ _)
              · trivial
            · trivial
          · rename_i hsp
            exfalso
            cases x with
            | func g' =>
              simp only [calm, ho] at hc
              simp only [target, ev, Option.some.injEq, Prod.mk.injEq] at ht
              obtain ⟨rfl, _⟩ := ht
              rw [hsp] at hc
              cases hc
            | _ => simp [calm, ho] at hc
  · split
    · rename_i v d p hst
      have hbase : Base s0 .normal (X.lay s d) := by
        obtain ⟨_, b1, b2, b3, b4⟩ := hb
        refine ⟨rfl, b1, fun j b hj => ?_, b3, Nat.le_trans b4 (by show s.nx ≤ s.nx + 4; omega)⟩
        show lookB (d ++ s.h) j = some b
        rcases step_calm hst hc with rfl | ⟨c, rfl⟩
        · exact b2 j b hj
        · show lookB ((s.nx, c) :: s.h) j = some b
          rw [lookB_cons, if_neg (by have := hf0 j ⟨b, hj⟩; omega)]
          exact b2 j b hj
      have hA := hk _ (Base.put hbase o.dst v)
      cases p with
      | none => exact hA
      | some q => exact hA
    · trivial

theorem ops_all (s0 : St) (hf0 : ∀ j, has s0.h j → j < s0.nx) (all : Array Oper) : ∀ n l s, Base s0 .normal s → l.all (calm φ) = true → (X P φ n (.ops l all s0.env.length) s).all (Base s0) := by
  intro n
  induction n with
  | zero => intro l s _ _; trivial
  | succ n ih =>
    intro l s hb hl
    cases l with
    | nil => exact hb
    | cons o rest =>
      simp only [List.all_cons, Bool.and_eq_true] at hl
      have hk : ∀ s', Base s0 .normal s' → (X P φ n (.ops rest all s0.env.length) s').all (Base s0) := fun s' h => ih rest s' h hl.2
      have hop := oper_all (P := P) (ih := X P φ n) hf0 hb hl.1 hk
      show (F P φ (X P φ n) (.ops (o :: rest) all s0.env.length) s).all _
      unfold F
      dsimp only
      split
      · exact hop
      · split
        · trivial
        · rename_i tg _
          split
          · split
            · exact hop
            · cases dstOk s o.dst with
              | false => trivial
              | true => exact hk _ (hb.put _ _)
          · cases dstOk s o.dst with
            | false => trivial
            | true => exact hk _ (hb.put _ _)
          · split
            · rename_i e1 e2 he1 he2
              obtain ⟨_, ⟨ne, b1⟩, b2⟩ := hb
              rw [b1] at he1 he2
              obtain ⟨n1, q1⟩ := setN_suffix rfl _ _ he1
              obtain ⟨n2, q2⟩ := setN_suffix rfl _ _ he2
              exact ⟨ih _ _ ⟨rfl, ⟨n1, q1⟩, b2⟩ (by simp [hl.1, hl.2]), ih _ _ ⟨rfl, ⟨n2, q2⟩, b2⟩ (by simp [hl.1, hl.2])⟩
            · trivial
          · trivial
end
end Go.Proofs.YtfjldllegmfooaaDoor.X
end

section
/- A region whose order is open, and where the order makes no difference. No condition. -/
namespace Go.Proofs.YtfjldllegmfooaaDoor.X
open Go.RowKit

section
variable {P : Program} {φ : Specs} {F₀ : Nat → Prop} {w0 : World}

theorem T.sat_pick {K : Ex → St → Prop} : ∀ t : T, t.sat K → ∃ e s, K e s ∧ t.sat fun e' s' => e' = e ∧ s' = s
  | .leaf e s, h => ⟨e, s, h, rfl, rfl⟩
  | .ite b x y, h => by
    cases b with
    | true => obtain ⟨e, s, h1, h2⟩ := T.sat_pick x (h.1 rfl); exact ⟨e, s, h1, fun _ => h2, fun hb => Bool.noConfusion hb⟩
    | false => obtain ⟨e, s, h1, h2⟩ := T.sat_pick y (h.2 rfl); exact ⟨e, s, h1, (fun hb => Bool.noConfusion hb), fun _ => h2⟩
  | .req p x, h => by obtain ⟨e, s, h1, h2⟩ := T.sat_pick x h.2; exact ⟨e, s, h1, h.1, h2⟩
  | .fail, h => h.elim

theorem has_iff (h : Hp) (j : Nat) : has h j ↔ j ∈ keysOf h := by
  induction h with
  | nil => simp [has, keysOf, lookB]
  | cons x h ih => obtain ⟨k, b⟩ := x; rw [has_cons, ih]; simp [keysOf]
theorem has_any (h : Hp) (j : Nat) : (keysOf h).any (Nat.beq j) = true ↔ has h j := by
  rw [has_iff, List.any_eq_true]
  exact ⟨fun ⟨x, hx, e⟩ => by rw [Nat.eq_of_beq_eq_true e]; exact hx, fun hx => ⟨j, hx, by simp⟩⟩

theorem lookB_append (d h : Hp) (b : Nat) : lookB (d ++ h) b = if b ∈ keysOf d then lookB d b else lookB h b := by
  induction d with
  | nil => simp [keysOf]
  | cons x d ih =>
    obtain ⟨k, c⟩ := x
    simp only [List.cons_append, lookB_cons, ih, keysOf, List.map_cons, List.mem_cons]
    by_cases e : b = k
    · simp [e]
    · simp only [e, false_or, if_false]
      rfl
theorem has_append (d h : Hp) (j : Nat) : has (d ++ h) j ↔ has d j ∨ has h j := by
  rw [has_iff, has_iff, has_iff]; simp [keysOf]

theorem squash_look : ∀ (h : Hp) (seen : List Nat) (j : Nat), lookB (squash h seen) j = if j ∈ seen then none else lookB h j
  | [], seen, j => by simp [squash, lookB]
  | (k, b) :: l, seen, j => by
    simp only [squash]
    cases hb : seen.any (Nat.beq k) with
    | true =>
      obtain ⟨x, hx, e⟩ := List.any_eq_true.1 hb
      have e := Nat.eq_of_beq_eq_true e
      subst e
      simp only [cond_true]
      rw [squash_look l seen j, lookB_cons]
      by_cases hj : j ∈ seen
      · simp [hj]
      · have : ¬ j = k := fun e => hj (e ▸ hx)
        simp [hj, this]
    | false =>
      have hk : ¬ k ∈ seen := fun hk => by
        have : seen.any (Nat.beq k) = true := List.any_eq_true.2 ⟨k, hk, by simp⟩
        rw [hb] at this; cases this
      simp only [cond_false]
      rw [lookB_cons, squash_look l (k :: seen) j, lookB_cons]
      by_cases e : j = k
      · subst e; simp [hk]
      · simp [e]
theorem squash_look0 (h : Hp) (j : Nat) : lookB (squash h []) j = lookB h j := by rw [squash_look]; simp
theorem squash_has (h : Hp) (j : Nat) : has (squash h []) j ↔ has h j := by unfold has; rw [squash_look0]
theorem squash_app (h h' : Hp) (j : Nat) : lookB (squash h [] ++ h') j = lookB (h ++ h') j := by
  rw [lookB_append, lookB_append, squash_look0]
  have : j ∈ keysOf (squash h []) ↔ j ∈ keysOf h := by rw [← has_iff, ← has_iff, squash_has]
  simp [this]

theorem restr_mono (h : Hp) : ∀ (n : Nat) (todo : List Nat) (acc h0 : Hp), restr h n todo acc = some h0 → ∀ j, has acc j → has h0 j
  | 0, _, _, _, e => by simp [restr] at e
  | n + 1, [], acc, h0, e => by simp only [restr, Option.some.injEq] at e; subst e; exact fun _ h => h
  | n + 1, j :: rest, acc, h0, e => by
    simp only [restr] at e
    split at e
    · exact restr_mono h n _ _ _ e
    · split at e
      · cases e
      · intro i hi; exact restr_mono h n _ _ _ e i ((has_cons _ _ _ _).2 (.inr hi))

theorem restr_same (h h' : Hp) : ∀ (n : Nat) (todo : List Nat) (acc h0 : Hp), restr h n todo acc = some h0 → (∀ j, has h0 j → lookB h' j = lookB h j) → restr h' n todo acc = some h0
  | 0, _, _, _, e, _ => by simp [restr] at e
  | n + 1, [], acc, h0, e, _ => by simp only [restr, Option.some.injEq] at e ⊢; exact e
  | n + 1, j :: rest, acc, h0, e, hs => by
    simp only [restr] at e ⊢
    split at e
    · exact restr_same h h' n _ _ _ e hs
    · split at e
      · cases e
      · rename_i b hb
        have hj : has h0 j := restr_mono h n _ _ _ e j ((has_cons _ _ _ _).2 (.inl rfl))
        rw [hs j hj, hb]
        exact restr_same h h' n _ _ _ e hs

theorem restr_ok (h : Hp) : ∀ (n : Nat) (todo : List Nat) (acc h0 : Hp), restr h n todo acc = some h0 → (∀ j b, lookB acc j = some b → lookB h j = some b) →
    (∀ (j : Nat) (b : Blk), lookB acc j = some b → ∀ i, i ∈ refsL b.cs ∨ i ∈ b.k.refs → has acc i ∨ i ∈ todo) →
    (∀ j b, lookB h0 j = some b → lookB h j = some b) ∧ (∀ (j : Nat) (b : Blk), lookB h0 j = some b → ∀ i, i ∈ refsL b.cs ∨ i ∈ b.k.refs → has h0 i) ∧ ∀ j, j ∈ todo → has h0 j
  | 0, _, _, _, e, _, _ => by simp [restr] at e
  | n + 1, [], acc, h0, e, h1, h2 => by
    simp only [restr, Option.some.injEq] at e
    subst e
    exact ⟨h1, fun j b hj i hi => (h2 j b hj i hi).resolve_right (by simp), by simp⟩
  | n + 1, j :: rest, acc, h0, e, h1, h2 => by
    simp only [restr] at e
    split at e
    · rename_i b0 hb0
      obtain ⟨g1, g2, g3⟩ := restr_ok h n rest acc h0 e h1 fun j' b hj' i hi => by
        rcases h2 j' b hj' i hi with h3 | h3
        · exact .inl h3
        · rcases List.mem_cons.1 h3 with rfl | h3
          · exact .inl ⟨b0, hb0⟩
          · exact .inr h3
      refine ⟨g1, g2, fun i hi => ?_⟩
      rcases List.mem_cons.1 hi with rfl | hi
      · exact restr_mono h n _ _ _ e _ ⟨b0, hb0⟩
      · exact g3 i hi
    · split at e
      · cases e
      · rename_i b hb
        obtain ⟨g1, g2, g3⟩ := restr_ok h n _ _ h0 e (fun j' b' hj' => by
            rw [lookB_cons] at hj'
            by_cases e2 : j' = j
            · rw [if_pos e2] at hj'; simp only [Option.some.injEq] at hj'; subst hj'; rw [e2]; exact hb
            · rw [if_neg e2] at hj'; exact h1 j' b' hj') fun j' b' hj' i hi => by
          rw [lookB_cons] at hj'
          by_cases e2 : j' = j
          · rw [if_pos e2] at hj'
            simp only [Option.some.injEq] at hj'
            subst hj'
            refine .inr ?_
            rw [List.mem_append, List.mem_append]
            exact .inl hi
          · rw [if_neg e2] at hj'
            rcases h2 j' b' hj' i hi with h3 | h3
            · exact .inl ((has_cons _ _ _ _).2 (.inr h3))
            · rcases List.mem_cons.1 h3 with rfl | h3
              · exact .inl ((has_cons _ _ _ _).2 (.inl rfl))
              · exact .inr (by rw [List.mem_append]; exact .inr h3)
        refine ⟨g1, g2, fun i hi => ?_⟩
        rcases List.mem_cons.1 hi with rfl | hi
        · exact restr_mono h n _ _ _ e _ ((has_cons _ _ _ _).2 (.inl rfl))
        · exact g3 i (by rw [List.mem_append]; exact .inr hi)

theorem HR.congr {β : Nat → Nat} {h h' : Hp} {w : World} (H : HR F₀ w0 β h w) (e : ∀ b, lookB h' b = lookB h b) : HR F₀ w0 β h' w :=
  ⟨H.os, H.tape, H.output, H.size, H.keep, fun j b hj => H.blk j b (by rw [← e]; exact hj), fun j b hj => H.own j b (by rw [← e]; exact hj),
    fun i j b b' hi hj => H.inj i j b b' (by rw [← e]; exact hi) (by rw [← e]; exact hj), fun j b hj i hi => by
      obtain ⟨c, hc⟩ := H.wf j b (by rw [← e]; exact hj) i hi
      exact ⟨c, by rw [e]; exact hc⟩⟩

/-- What a call may turn: the blocks that it was handed. -/
def Handed (β : Nat → Nat) (h0 : Hp) (g : Nat) : Prop := ∃ j b, lookB h0 j = some b ∧ b.k.on β ∧ g = β j

theorem HR.frame {β : Nat → Nat} {h h0 : Hp} {w : World} (H : HR F₀ w0 β h w) (hsub : ∀ j b, lookB h0 j = some b → lookB h j = some b)
    (hcl : ∀ (j : Nat) (b : Blk), lookB h0 j = some b → ∀ i, i ∈ refsL b.cs ∨ i ∈ b.k.refs → has h0 i) : HR (Handed β h0) w β h0 w :=
  ⟨rfl, rfl, rfl, Nat.le_refl _, fun _ _ _ => rfl, fun j b hj => H.blk j b (hsub j b hj), fun j b hj hl => .inl ⟨j, b, hj, hl, rfl⟩,
    fun i j b b' hi hj => H.inj i j b b' (hsub i b hi) (hsub j b' hj), hcl⟩

theorem RomOk.handed {R : Bool → Addr → List PK → List (List Value) → Prop} (hR : RomOk R F₀ w0) {β : Nat → Nat} {h h0 : Hp} {w : World} (H : HR F₀ w0 β h w) (hsub : ∀ j b, lookB h0 j = some b → lookB h j = some b) : RomOk R (Handed β h0) w := by
  refine ⟨?_, hR.glw H, ?_⟩
  rotate_left
  · rintro q hq ⟨j, b, hj, hon, e⟩
    rcases H.own j b (hsub j b hj) hon with h2 | h2
    · exact hR.glF q hq (e ▸ h2)
    · have := (hR.gls q hq).1
      omega
  intro nn ad ks xs h1
  obtain ⟨a1, a2, a3, a4⟩ := hR.rows nn ad ks xs h1
  refine ⟨a1, a2, a3, fun hn => ?_⟩
  obtain ⟨b1, b2, b3⟩ := a4 hn
  refine ⟨Nat.lt_of_lt_of_le b1 H.size, ?_, fun i u hu => hR.cell H h1 hu⟩
  rintro ⟨j, b, hj, hon, e⟩
  rcases H.own j b (hsub j b hj) hon with h2 | h2
  · exact b2 (e ▸ h2)
  · omega

theorem HR.unframe {β β' : Nat → Nat} {h h0 h1 : Hp} {w w' : World} (H : HR F₀ w0 β h w) (hsub : ∀ j b, lookB h0 j = some b → lookB h j = some b) (H1 : HR (Handed β h0) w β' h1 w')
    (hext : ∀ j, has h0 j → β' j = β j) (hmono : ∀ j, has h0 j → has h1 j) (hnew : ∀ j, has h1 j → has h0 j ∨ ¬ has h j) :
    HR F₀ w0 (fun j => bif (keysOf h1).any (Nat.beq j) then β' j else β j) (h1 ++ h) w' ∧ (∀ j, has h j → (fun j => bif (keysOf h1).any (Nat.beq j) then β' j else β j) j = β j) ∧
      ∀ j, has h1 j → (fun j => bif (keysOf h1).any (Nat.beq j) then β' j else β j) j = β' j := by
  have e1 : ∀ j, has h1 j → (bif (keysOf h1).any (Nat.beq j) then β' j else β j) = β' j := fun j hj => by rw [(has_any h1 j).2 hj]; rfl
  have e0 : ∀ j, ¬ has h1 j → (bif (keysOf h1).any (Nat.beq j) then β' j else β j) = β j := fun j hj => by
    have : (keysOf h1).any (Nat.beq j) = false := by
      cases e : (keysOf h1).any (Nat.beq j) with
      | false => rfl
      | true => exact absurd ((has_any h1 j).1 e) hj
    rw [this]; rfl
  have e2 : ∀ j, has h j → (bif (keysOf h1).any (Nat.beq j) then β' j else β j) = β j := fun j hj => by
    by_cases hj1 : has h1 j
    · rw [e1 j hj1]
      exact hext j ((hnew j hj1).resolve_right (fun hn => hn hj))
    · exact e0 j hj1
  have hl1 : ∀ j b, has h1 j → lookB (h1 ++ h) j = some b → lookB h1 j = some b := fun j b hj hb => by
    rw [lookB_append, if_pos ((has_iff _ _).1 hj)] at hb; exact hb
  have hl0 : ∀ j b, ¬ has h1 j → lookB (h1 ++ h) j = some b → lookB h j = some b := fun j b hj hb => by
    rw [lookB_append, if_neg (fun e => hj ((has_iff _ _).2 e))] at hb; exact hb
  have on1 : ∀ j b, lookB h1 j = some b → (b.k.on (fun j => bif (keysOf h1).any (Nat.beq j) then β' j else β j) ↔ b.k.on β') := fun j b hb => Kd.on_congr fun i hi => e1 i (H1.wf j b hb i (.inr hi))
  have on0 : ∀ j b, lookB h j = some b → (b.k.on (fun j => bif (keysOf h1).any (Nat.beq j) then β' j else β j) ↔ b.k.on β) := fun j b hb => Kd.on_congr fun i hi => e2 i (H.wf j b hb i (.inr hi))
  have cross : ∀ i j b b', has h1 i → lookB h1 i = some b → b.k.on β' → ¬ has h1 j → lookB h j = some b' → b'.k.on β → β' i = β j → False := by
    intro i j b b' hi hb l1 hj hb' l2 e
    rcases H1.own i b hb l1 with ⟨j', c, hj', hl, e3⟩ | h3
    · have : j' = j := H.inj j' j c b' (hsub j' c hj') hb' hl l2 (by omega)
      subst this
      exact hj (hmono j' ⟨c, hj'⟩)
    · have := H.lt hb' l2; omega
  refine ⟨⟨H1.os.trans H.os, H1.tape.trans H.tape, H1.output.trans H.output, Nat.le_trans H.size H1.size, fun k hk hF => ?_, fun j b hj hl => ?_, fun j b hj hl => ?_, fun i j b b' hi hj l1 l2 e => ?_, fun j b hj i hi => ?_⟩, e2, e1⟩
  · refine (H1.keep k (Nat.lt_of_lt_of_le hk H.size) ?_).trans (H.keep k hk hF)
    rintro ⟨j, b, hj, hl, rfl⟩
    rcases H.own j b (hsub j b hj) hl with h2 | h2
    · exact hF h2
    · omega
  · by_cases h1j : has h1 j
    · have hb := hl1 j b h1j hj
      show Here _ b w' (bif (keysOf h1).any (Nat.beq j) then β' j else β j)
      rw [e1 j h1j]
      exact H1.here_same hb hl (fun _ => ⟨rfl, rfl⟩) fun i hi => e1 i (H1.wf j b hb i hi)
    · have hb := hl0 j b h1j hj
      show Here _ b w' (bif (keysOf h1).any (Nat.beq j) then β' j else β j)
      rw [e0 j h1j]
      refine H.here_same hb hl (fun hon => ⟨rfl, H1.keep _ (H.lt hb hon) ?_⟩) fun i hi => e2 i (H.wf j b hb i hi)
      rintro ⟨j', c, hj', hl', e⟩
      have : j' = j := H.inj j' j c b (hsub j' c hj') hb hl' hon e.symm
      subst this
      exact h1j (hmono j' ⟨c, hj'⟩)
  · by_cases h1j : has h1 j
    · have hb := hl1 j b h1j hj
      show F₀ (bif (keysOf h1).any (Nat.beq j) then β' j else β j) ∨ w0.heap.size ≤ (bif (keysOf h1).any (Nat.beq j) then β' j else β j)
      rw [e1 j h1j]
      rcases H1.own j b hb ((on1 j b hb).1 hl) with ⟨j', c, hj', hl', e⟩ | h2
      · rw [e]; exact H.own j' c (hsub j' c hj') hl'
      · have := H.size; exact .inr (by omega)
    · have hb := hl0 j b h1j hj
      show F₀ (bif (keysOf h1).any (Nat.beq j) then β' j else β j) ∨ w0.heap.size ≤ (bif (keysOf h1).any (Nat.beq j) then β' j else β j)
      rw [e0 j h1j]
      exact H.own j b hb ((on0 j b hb).1 hl)
  · replace e : (bif (keysOf h1).any (Nat.beq i) then β' i else β i) = (bif (keysOf h1).any (Nat.beq j) then β' j else β j) := e
    by_cases h1i : has h1 i <;> by_cases h1j : has h1 j
    · rw [e1 i h1i, e1 j h1j] at e
      exact H1.inj i j b b' (hl1 i b h1i hi) (hl1 j b' h1j hj) ((on1 i b (hl1 i b h1i hi)).1 l1) ((on1 j b' (hl1 j b' h1j hj)).1 l2) e
    · rw [e1 i h1i, e0 j h1j] at e
      exact (cross i j b b' h1i (hl1 i b h1i hi) ((on1 i b (hl1 i b h1i hi)).1 l1) h1j (hl0 j b' h1j hj) ((on0 j b' (hl0 j b' h1j hj)).1 l2) e).elim
    · rw [e0 i h1i, e1 j h1j] at e
      exact (cross j i b' b h1j (hl1 j b' h1j hj) ((on1 j b' (hl1 j b' h1j hj)).1 l2) h1i (hl0 i b h1i hi) ((on0 i b (hl0 i b h1i hi)).1 l1) e.symm).elim
    · rw [e0 i h1i, e0 j h1j] at e
      exact H.inj i j b b' (hl0 i b h1i hi) (hl0 j b' h1j hj) ((on0 i b (hl0 i b h1i hi)).1 l1) ((on0 j b' (hl0 j b' h1j hj)).1 l2) e
  · rw [has_append]
    by_cases h1j : has h1 j
    · exact .inl (H1.wf j b (hl1 j b h1j hj) i hi)
    · exact .inr (H.wf j b (hl0 j b h1j hj) i hi)

/-- A call is known: what it answers and lays, with keys from k to k1. -/
def IsCall (P : Program) (φ : Specs) (ih : Task → St → T) (s : St) (k : Nat) (g : FuncId) (as : List V) (fn : Func) (c : Code) (v : V) (d : Hp) (k1 : Nat) : Prop :=
  (∃ r vs z, spec φ g = some r ∧ valL as = some vs ∧ r vs = some z ∧ v = mk (isCL as) z ∧ d = [] ∧ k1 = k) ∨
  (∃ h0, restr s.h 4096 (refsL as) [] = some h0 ∧ (∀ j, has h0 j → j < k) ∧ k ≤ k1 ∧
    (callT P φ ih g fn c as h0 k).sat fun _ s1 =>
      look s1.env 0 = v ∧ squash s1.h [] = d ∧ s1.nx = k1 ∧ ∀ j, has s1.h j → has h0 j ∨ (k ≤ j ∧ j < k1))

/-- An operation is known: what it answers and lays, with keys from k to k1. -/
def Is (P : Program) (φ : Specs) (ih : Task → St → T) (s : St) (k : Nat) (o : Oper) (v : V) (d : Hp) (k1 : Nat) : Prop :=
  match valueCall o.op with
  | none => ∃ p, step P φ s k o = some (v, d, p) ∧ (∀ q, p = some q → q) ∧ k1 = k + 4
  | some (x, args) => ∃ g xs ys fn c, target (ev s x) = some (g, xs, ys) ∧ (xs ++ evL s args.toList ++ ys).all notU = true ∧ P.funcs[g]? = some fn ∧ (fn.name == "runtime.NumGoroutine") = false ∧ fn.body = some c ∧
      IsCall P φ ih s k g (xs ++ evL s args.toList ++ ys) fn c v d k1

theorem is_le {ih : Task → St → T} {s : St} {k k1 : Nat} {o : Oper} {v : V} {d : Hp} (h : Is P φ ih s k o v d k1) : k ≤ k1 := by
  unfold Is at h
  split at h
  · obtain ⟨_, _, _, rfl⟩ := h; omega
  · obtain ⟨_, _, _, _, _, _, _, _, _, _, h⟩ := h
    rcases h with ⟨_, _, _, _, _, _, _, _, rfl⟩ | ⟨_, _, _, h, _⟩ <;> omega

theorem oneT_sat {ih : Task → St → T} {s : St} {k : Nat} {o : Oper} {K : V → Hp → Nat → T} {Q : Ex → St → Prop} (h : (oneT P φ ih s k o K).sat Q) :
    ∃ v d k1, Is P φ ih s k o v d k1 ∧ (K v d k1).sat Q := by
  unfold oneT at h
  unfold Is
  cases hvc : valueCall o.op with
  | none =>
    simp only [hvc] at h
    dsimp only
    split at h
    · rename_i v d p hst
      have hask : (∀ q, p = some q → q) ∧ (K v d (k + 4)).sat Q := by
        cases p with
        | none => exact ⟨fun q hq => (by cases hq), h⟩
        | some q => exact ⟨fun q' hq => (by injection hq with hq; subst hq; exact h.1), h.2⟩
      exact ⟨v, d, k + 4, ⟨p, hst, hask.1, rfl⟩, hask.2⟩
    · exact h.elim
  | some xa =>
    obtain ⟨x, args⟩ := xa
    simp only [hvc] at h
    dsimp only
    split at h
    · exact h.elim
    · rename_i g xs ys ht
      generalize hasE : xs ++ evL s args.toList ++ ys = as at h
      cases hnu : as.all notU with
      | false => rw [hnu] at h; exact h.elim
      | true =>
      rw [hnu] at h
      simp only [cond_true] at h
      split at h
      · exact h.elim
      · rename_i fn hf
        cases hname : (fn.name == "runtime.NumGoroutine") with
        | true => rw [hname] at h; exact h.elim
        | false =>
        rw [hname] at h
        simp only [cond_false] at h
        split at h
        · exact h.elim
        · rename_i c hb
          have fin : (∃ v d k1, IsCall P φ ih s k g as fn c v d k1 ∧ (K v d k1).sat Q) → ∃ v d k1, (∃ g xs ys fn c, target (ev s x) = some (g, xs, ys) ∧ (xs ++ evL s args.toList ++ ys).all notU = true ∧ P.funcs[g]? = some fn ∧ (fn.name == "runtime.NumGoroutine") = false ∧ fn.body = some c ∧
              IsCall P φ ih s k g (xs ++ evL s args.toList ++ ys) fn c v d k1) ∧ (K v d k1).sat Q := by
            rintro ⟨v, d, k1, h1, h2⟩
            exact ⟨v, d, k1, ⟨g, xs, ys, fn, c, ht, by rw [hasE]; exact hnu, hf, hname, hb, by rw [hasE]; exact h1⟩, h2⟩
          refine fin ?_
          split at h
          · rename_i r hsp
            split at h
            · rename_i vs hvs
              split at h
              · rename_i z hz
                exact ⟨_, _, _, .inl ⟨r, vs, z, hsp, hvs, hz, rfl, rfl, rfl⟩, h⟩
              · exact h.elim
            · exact h.elim
          · split at h
            · exact h.elim
            · rename_i h0 hr
              cases hk : ((keysOf h0).all fun j => Nat.blt j k) with
              | false => rw [hk] at h; exact h.elim
              | true =>
              rw [hk] at h
              simp only [cond_true] at h
              rw [T.sat_bind] at h
              obtain ⟨e, s1, hK, hpick⟩ := T.sat_pick _ h
              cases hkk : (Nat.ble k s1.nx && (keysOf s1.h).all fun j => (keysOf h0).any (Nat.beq j) || (Nat.ble k j && Nat.blt j s1.nx)) with
              | false => rw [hkk] at hK; exact hK.elim
              | true =>
              rw [hkk] at hK
              rw [Bool.and_eq_true] at hkk
              refine ⟨look s1.env 0, squash s1.h [], s1.nx, .inr ⟨h0, hr, fun j hj => ?_, Nat.le_of_ble_eq_true hkk.1, ?_⟩, hK⟩
              · exact Nat.le_of_ble_eq_true (List.all_eq_true.1 hk j ((has_iff _ _).1 hj))
              · refine T.sat_mono hpick ?_
                rintro e' s' ⟨rfl, rfl⟩
                refine ⟨rfl, rfl, rfl, fun j hj => ?_⟩
                have := List.all_eq_true.1 hkk.2 j ((has_iff _ _).1 hj)
                rw [Bool.or_eq_true, Bool.and_eq_true] at this
                rcases this with h2 | ⟨h2, h3⟩
                · exact .inl ((has_any _ _).1 h2)
                · exact .inr ⟨Nat.le_of_ble_eq_true h2, Nat.le_of_ble_eq_true h3⟩

set_option maxHeartbeats 1000000 in
theorem is_ok (hφ : Good P φ) {ih : Task → St → T} {n : Nat} (hs : ∀ F w0, RomOk φ.rom F w0 → Sd P F w0 n ih) (hrom : RomOk φ.rom F₀ w0) {s : St} {k k1 : Nat} {o : Oper} {v : V} {d : Hp} (h : Is P φ ih s k o v d k1) (hk : ∀ j, has s.h j → ¬ (k ≤ j ∧ j < k1))
    {β : Nat → Nat} {a : Act} {w : World} (H : HR F₀ w0 β s.h w) (hr : RE β s a) (next : Act → World → Prop) (Q : Exit → Act → World → Prop)
    (hn : ∀ β' w' x, HR F₀ w0 β' (d ++ s.h) w' → (∀ j, has s.h j → β' j = β j) → (v ≠ .u → x = den β' v) → (∀ j, j ∈ refs v → has (d ++ s.h) j) → next (a.put o.dst x) w') : o.wp P a w next Q := by
  unfold Is at h
  split at h
  · obtain ⟨p, hst, hp, rfl⟩ := h
    obtain ⟨β', w', r, hrun, out⟩ := step_ok hrom hst (fun j hj => by have := hk j hj; omega) hp H hr
    unfold Oper.wp
    rw [hrun]
    rcases out.next with ⟨x, rfl, hx⟩ | ⟨rfl, rfl⟩
    · rw [Oper.upon_value]; exact hn β' w' x out.hr out.ext hx out.refs
    · rw [Oper.upon_skip]; exact hn β' w' undef out.hr out.ext (fun _ => rfl) out.refs
  · rename_i x args hvc
    obtain ⟨ts, ho⟩ := valueCall_of hvc
    obtain ⟨g, xs, ys, fn, c, ht, hnu, hf, hname, hb, h⟩ := h
    obtain ⟨hden, hxu, hbx, hby⟩ := target_den ht β
    have hx : a.eval x = .func (.func g) (denL β xs).toArray (denL β ys).toArray := (ev_ok hr x hxu).trans hden
    have hau : ∀ y ∈ args.toList, ev s y ≠ .u := fun y hy => all_notU hnu _ (by simp [evL]; exact .inr (.inl ⟨y, by simpa using hy, rfl⟩))
    have hargs : (denL β xs).toArray ++ args.map a.eval ++ (denL β ys).toArray = (denL β (xs ++ evL s args.toList ++ ys)).toArray := by
      rw [denL_append, denL_append, evL_den hr _ hau, ← Array.toList_map]
      simp
    have hexec : (execOp a.eval o).run P w = .ok (.enter g (denL β (xs ++ evL s args.toList ++ ys)).toArray) w := by
      simp only [execOp, ho, resolve, hx, Deferred.ofValue, Sem.run_bind, Sem.run_pure, Result.andThen_ok, invoke]
      rw [hargs]
      exact run_callFunc hf hname hb _ w
    unfold Oper.wp
    rw [hexec, Oper.upon_enter]
    generalize xs ++ evL s args.toList ++ ys = as at h hnu
    rcases h with ⟨r, vs, z, hsp, hvs, hz, rfl, rfl, rfl⟩ | ⟨h0, hres, hlt, _, hsat⟩
    · rw [valL_den β _ _ hvs]
      refine (hφ.fs g r hsp vs z hz w (hrom.glw H)).mono ?_
      rintro e w' ⟨rfl, hbel⟩
      exact hn β w' z (H.below hbel) (fun _ _ => rfl) (fun _ => (den_mk β _ _).symm) (by rw [refs_mk]; simp)
    · obtain ⟨hsub, hcl, htodo⟩ := restr_ok s.h _ _ _ _ hres (by intro j b hj; simp [lookB] at hj) (by intro j b hj; simp [lookB] at hj)
      have hromH := hrom.handed H hsub
      refine (callT_ok hφ (hs _ _ hromH) hromH hf hb hsat (H.frame hsub hcl) htodo hlt).mono ?_
      rintro e w' ⟨ex, s1, β', ⟨hz, hd, hk1, hkeys⟩, ret⟩
      obtain ⟨x, rfl, hxv⟩ := ret.val
      obtain ⟨U1, U2, U3⟩ := H.unframe hsub ret.hr ret.ext ret.mono fun j hj => by
        rcases hkeys j hj with h2 | h2
        · exact .inl h2
        · exact .inr fun hh => hk j hh h2
      have hbz := ret.refs
      rw [hz] at hbz hxv
      refine hn _ w' _ (U1.congr fun b => by rw [← hd]; exact squash_app _ _ _) U2 (fun hu => (hxv hu).trans (den_congr _ _ v fun j hj => U3 j (hbz j hj)).symm) fun j hj => ?_
      rw [has_append, ← hd, squash_has]
      exact .inl (hbz j hj)

/-! ### what an operation looks at -/
theorem elems_same {h h' : Hp} {sz : Nat} {v : V} (hs : ∀ j, j ∈ refs v → lookB h' j = lookB h j) : elems h' sz v = elems h sz v := by
  unfold elems
  split
  · rfl
  · rw [hs _ (by simp [refs])]
  · rw [hs _ (by simp [refs])]
  · rfl
theorem rowOf_same {h h' : Hp} {e : TypeId} {sz : Nat} {v : V} (hs : ∀ j, j ∈ refs v → lookB h' j = lookB h j) : rowOf h' e sz v = rowOf h e sz v := by
  unfold rowOf
  split
  · rfl
  · rw [hs _ (by simp [refs])]
  · rw [hs _ (by simp [refs])]
  · rfl

theorem oldO_same {h h' : Hp} {e : TypeId} {ks : List PK} {v : V} (hs : ∀ j, j ∈ refs v → lookB h' j = lookB h j) : oldO h' e ks v = oldO h e ks v := by
  unfold oldO
  split
  · rfl
  · rw [hs _ (by simp [refs])]
  · rw [rowOf_same hs]
theorem newO_same {h h' : Hp} {ks : List PK} {v : V} (hs : ∀ j, j ∈ refs v → lookB h' j = lookB h j) : newO φ h' ks v = newO φ h ks v := by
  unfold newO
  split
  · rw [hs _ (by simp [refs])]
  · rfl
  · rw [elems_same hs]
theorem idxO_same {s s' : St} {t : TypeId} {x ix : V} (hs : ∀ j, j ∈ refs x → lookB s'.h j = lookB s.h j) : idxO P φ s' t x ix = idxO P φ s t x ix := by
  unfold idxO
  congr 1
  funext i
  split
  · rw [hs _ (by simp [refs])]
  · rfl
  · rfl
  · rfl

theorem evL_same {s s' : St} {xs : List Operand} (h : ∀ x ∈ xs, ev s' x = ev s x) : evL s' xs = evL s xs := List.map_congr_left h

theorem parts_same {s s' : St} {ps : List (Nat × Operand)} (h : ∀ x ∈ ps.map (·.2), ev s' x = ev s x) : (ps.map fun q => (q.1, ev s' q.2)) = ps.map fun q => (q.1, ev s q.2) :=
  List.map_congr_left fun q hq => by rw [h q.2 (List.mem_map.2 ⟨q, hq, rfl⟩)]

theorem step_same {s s' : St} {k : Nat} {o : Oper} (he : ∀ x ∈ o.op.operands, ev s' x = ev s x) (hl : ∀ j, j ∈ tch s o → lookB s'.h j = lookB s.h j) : step P φ s' k o = step P φ s k o := by
  obtain ⟨dst, op, ty, pos, after, guard⟩ := o
  dsimp only at he
  cases op with
  | move x => have h1 := he x (by simp [Op.operands]); simp only [step, h1]
  | assign x => have h1 := he x (by simp [Op.operands]); simp only [step, h1]
  | pick c x y => have h1 := he c (by simp [Op.operands]); have h2 := he x (by simp [Op.operands]); have h3 := he y (by simp [Op.operands]); simp only [step, h1, h2, h3]
  | alloc t => rfl
  | box t x => have h1 := he x (by simp [Op.operands]); simp only [step, h1]
  | build t ps =>
    have h1 := parts_same (s := s) (s' := s') (ps := ps.toList) (fun x hx => he x (by simpa [Op.operands] using hx))
    simp only [step, h1]
  | buildSlice t n ps =>
    have h1 := parts_same (s := s) (s' := s') (ps := ps.toList) (fun x hx => he x (by simpa [Op.operands] using hx))
    simp only [step, h1]
  | load t x =>
    have h1 := he x (by simp [Op.operands])
    simp only [step, h1]
    split
    · rename_i j o e
      rw [hl j (by simp [tch, e, refs])]
    · rename_i j o sz i f e
      rw [hl j (by simp [tch, e, refs])]
    · rfl
    · rename_i j o sz len i f e
      rw [hl j (by simp [tch, e, refs])]
    · rfl
  | store t x y =>
    have h1 := he x (by simp [Op.operands])
    have h2 := he y (by simp [Op.operands])
    simp only [step, h1, h2]
    split
    · rename_i j o e
      rw [hl j (by simp [tch, e, refs])]
    · rename_i j o sz i f e
      rw [hl j (by simp [tch, e, refs])]
    · rfl
  | nilCheck x => have h1 := he x (by simp [Op.operands]); simp only [step, h1]
  | binOp op t x y yt => have h1 := he x (by simp [Op.operands]); have h2 := he y (by simp [Op.operands]); simp only [step, h1, h2]
  | unOp op t x => have h1 := he x (by simp [Op.operands]); simp only [step, h1]
  | convert a b x =>
    have h1 := he x (by simp [Op.operands])
    simp only [step, h1]
    rw [elems_same (fun j hj => hl j (by simpa [tch] using hj))]
    split
    · rfl
    · split
      · split
        · split
          · rename_i j a o c n e
            rw [hl j (by simp [tch, e, refs])]
          · rfl
          · rfl
        · rfl
      · rfl
  | makeSlice t l c => have h1 := he l (by simp [Op.operands]); have h2 := he c (by simp [Op.operands]); simp only [step, h1, h2]
  | makeFunc fn xs ys =>
    cases fn with
    | func g =>
      have h1 := evL_same (s := s) (s' := s') (xs := xs.toList) (fun x hx => he x (by simp only [Op.operands, Array.mem_append]; exact .inl (by simpa using hx)))
      have h2 := evL_same (s := s) (s' := s') (xs := ys.toList) (fun x hx => he x (by simp only [Op.operands, Array.mem_append]; exact .inr (by simpa using hx)))
      simp only [step, h1, h2]
    | _ => rfl
  | slice t x lo hi mx =>
    have h1 := he x (by simp [Op.operands])
    have h2 : ∀ (f : V → Option Int), lo.map (fun q => f (ev s' q)) = lo.map (fun q => f (ev s q)) := fun f => by
      cases lo with
      | none => rfl
      | some q => rw [Option.map_some, Option.map_some, he q (by simp [Op.operands])]
    have h3 : ∀ {α : Type} (f : V → Option α), hi.map (fun q => f (ev s' q)) = hi.map (fun q => f (ev s q)) := fun f => by
      cases hi with
      | none => rfl
      | some q => rw [Option.map_some, Option.map_some, he q (by simp [Op.operands])]
    simp only [step, h1, h2, h3]
    cases mx with
    | some m => rfl
    | none =>
      dsimp only
      split
      · rfl
      · congr 1
        funext q
        split
        · rename_i m j a o c n e1 e2
          rw [hl j (by simp [tch, e2, refs])]
        · rename_i m j c n e1 e2
          rw [hl j (by simp [tch, e2, refs])]
        · rfl
      · rfl
  | fieldAddr t x i => have h1 := he x (by simp [Op.operands]); simp only [step, h1]
  | field t x i => have h1 := he x (by simp [Op.operands]); simp only [step, h1]
  | indexAddr t x y =>
    have h1 := he x (by simp [Op.operands])
    have h2 := he y (by simp [Op.operands])
    simp only [step, h1, h2]
    rw [idxO_same (fun j hj => hl j (by simpa [tch] using hj))]
  | index t x y => have h1 := he x (by simp [Op.operands]); have h2 := he y (by simp [Op.operands]); simp only [step, h1, h2]
  | extract x i => have h1 := he x (by simp [Op.operands]); simp only [step, h1]
  | makeMap t r => cases r <;> rfl
  | insert t x y z =>
    have h1 := he x (by simp [Op.operands])
    have h2 := he y (by simp [Op.operands])
    have h3 := he z (by simp [Op.operands])
    simp only [step, h1, h2, h3]
    split
    · rename_i j e
      rw [hl j (by simp [tch, e, refs])]
    · rfl
  | lookup t x y ok =>
    cases ok with
    | true =>
      have h1 := he x (by simp [Op.operands])
      have h2 := he y (by simp [Op.operands])
      simp only [step, h1, h2]
      split
      · rename_i j e
        rw [hl j (by simp [tch, e, refs])]
      · rfl
    | false =>
      have h1 := he x (by simp [Op.operands])
      have h2 := he y (by simp [Op.operands])
      simp only [step, h1, h2]
      split
      · rename_i j e
        rw [hl j (by simp [tch, e, refs])]
      · rfl
  | call c =>
    obtain ⟨callee, args, ts⟩ := c
    cases callee with
    | builtin b =>
      have ha : ∀ x ∈ args.toList, ev s' x = ev s x := fun x hx => he x (by simp only [Op.operands, Call.operands, Array.mem_append]; exact .inr (by simpa using hx))
      have h1 := evL_same ha
      simp only [step]
      unfold builtinV
      rw [h1]
      split
      · rename_i x y hargs
        have hx := ha x (by rw [hargs]; simp)
        have hy := ha y (by rw [hargs]; simp)
        rw [hx, hy]
        have hl2 : ∀ j, j ∈ refs (ev s x) ∨ j ∈ refs (ev s y) → lookB s'.h j = lookB s.h j := fun j hj => hl j (by
          simp only [tch, hargs, evL, List.map_cons, List.map_nil, refsL, List.append_nil, List.mem_append]
          exact hj)
        unfold appendV appendO
        simp only [elems_same (fun j hj => hl2 j (.inr hj)), rowOf_same (fun j hj => hl2 j (.inl hj)), oldO_same (fun j hj => hl2 j (.inl hj)), newO_same (fun j hj => hl2 j (.inr hj))]
      · split
        · rfl
        · split
          · rename_i x hargs _
            rw [ha x (by rw [hargs]; simp)]
          · rfl
    | _ => rfl
  | _ => rfl

theorem is_same {ih : Task → St → T} {s s' : St} {k k1 : Nat} {o : Oper} {v : V} {d : Hp} (he : ∀ x ∈ o.op.operands, ev s' x = ev s x) (hl : ∀ j, j ∈ tch s o → lookB s'.h j = lookB s.h j) (h : Is P φ ih s k o v d k1) : Is P φ ih s' k o v d k1 := by
  unfold Is at h ⊢
  split at h
  · obtain ⟨p, hst, hp, hk⟩ := h
    exact ⟨p, by rw [step_same he hl]; exact hst, hp, hk⟩
  · rename_i x args hvc
    obtain ⟨ts, ho⟩ := valueCall_of hvc
    have h1 : ev s' x = ev s x := he x (by rw [ho]; simp [Op.operands, Call.operands])
    have h2 : evL s' args.toList = evL s args.toList := evL_same fun y hy => he y (by rw [ho]; simp only [Op.operands, Call.operands, Array.mem_append]; exact .inr (by simpa using hy))
    obtain ⟨g, xs, ys, fn, c, ht, hnu, hf, hname, hb, h⟩ := h
    refine ⟨g, xs, ys, fn, c, by rw [h1]; exact ht, by rw [h2]; exact hnu, hf, hname, hb, ?_⟩
    rw [h2]
    rcases h with h | ⟨h0, hres, hlt, hle, hsat⟩
    · exact .inl h
    · refine .inr ⟨h0, restr_same s.h s'.h _ _ _ _ hres fun j hj => hl j ?_, hlt, hle, hsat⟩
      simp only [tch, ho, ht, hres]
      exact (has_iff _ _).1 hj

theorem ev_same {all : Array Oper} {s s' : St} {o : Oper} (h : ∀ t ∈ opTmps all o, look s'.env t = look s.env t) : ∀ x ∈ o.op.operands, ev s' x = ev s x := by
  intro x hx
  cases x with
  | tmp t => exact h t (List.mem_append_right _ (List.mem_filterMap.2 ⟨.tmp t, by simpa using hx, rfl⟩))
  | _ => rfl

/-! ### a state from which operations -/
theorem lookB_key {d : Hp} {b : Nat} (h : b ∈ keysOf d) (h1 h2 : Hp) : lookB (d ++ h1) b = lookB (d ++ h2) b := by rw [lookB_append, lookB_append, if_pos h, if_pos h]
theorem lookB_nokey {d : Hp} {b : Nat} (h : ¬ b ∈ keysOf d) (h1 : Hp) : lookB (d ++ h1) b = lookB h1 b := by rw [lookB_append, if_neg h]

theorem look_after (s : St) (r : Rec) (t : Nat) : look (X.after s r).env t = if r.o.dst = some t then r.v else look s.env t := by
  unfold X.after put
  cases hd : r.o.dst with
  | none => simp
  | some d =>
    simp only [look]
    by_cases e : d = t
    · subst e; simp
    · rw [beq_ne e]; simp [e]
theorem h_after (s : St) (r : Rec) : (X.after s r).h = r.d ++ s.h := by unfold X.after put; cases r.o.dst <;> rfl
theorem n_after (s : St) (r : Rec) : (X.after s r).n = s.n := by unfold X.after put; cases r.o.dst <;> rfl
theorem nx_after (s : St) (r : Rec) : (X.after s r).nx = s.nx := by unfold X.after put; cases r.o.dst <;> rfl

theorem app_env (D D' : Nat → Bool) (t : Nat) : ∀ (tr : List Rec) (i : Nat) (s s' : St), look s.env t = look s'.env t → (∀ (j : Nat) (r : Rec), tr[j]? = some r → r.o.dst = some t → D (i + j) = D' (i + j)) → look (app D i tr s).env t = look (app D' i tr s').env t
  | [], i, s, s', h, _ => h
  | r :: tr, i, s, s', h, hd => by
    simp only [app]
    refine app_env D D' t tr (i + 1) _ _ ?_ fun j r' hj ht => by have := hd (j + 1) r' (by simpa using hj) ht; rw [show i + (j + 1) = i + 1 + j by omega] at this; exact this
    by_cases ht : r.o.dst = some t
    · have := hd 0 r rfl ht
      rw [Nat.add_zero] at this
      rw [this]
      cases D' i <;> simp [look_after, ht, h]
    · cases D i <;> cases D' i <;> simp [look_after, ht, h]

theorem app_h (D D' : Nat → Bool) (b : Nat) : ∀ (tr : List Rec) (i : Nat) (s s' : St), lookB s.h b = lookB s'.h b → (∀ (j : Nat) (r : Rec), tr[j]? = some r → b ∈ keysOf r.d → D (i + j) = D' (i + j)) → lookB (app D i tr s).h b = lookB (app D' i tr s').h b
  | [], i, s, s', h, _ => h
  | r :: tr, i, s, s', h, hd => by
    simp only [app]
    refine app_h D D' b tr (i + 1) _ _ ?_ fun j r' hj ht => by have := hd (j + 1) r' (by simpa using hj) ht; rw [show i + (j + 1) = i + 1 + j by omega] at this; exact this
    by_cases ht : b ∈ keysOf r.d
    · have := hd 0 r rfl ht
      rw [Nat.add_zero] at this
      rw [this]
      cases D' i
      · exact h
      · simp only [cond_true, h_after]; exact lookB_key ht _ _
    · cases D i <;> cases D' i <;> simp only [cond_true, cond_false, h_after, lookB_nokey ht, h]

theorem app_n (D : Nat → Bool) : ∀ (tr : List Rec) (i : Nat) (s : St), (app D i tr s).n = s.n ∧ (app D i tr s).nx = s.nx
  | [], _, _ => ⟨rfl, rfl⟩
  | r :: tr, i, s => by
    simp only [app]
    obtain ⟨h1, h2⟩ := app_n D tr (i + 1) (bif D i then X.after s r else s)
    rw [h1, h2]
    cases D i <;> simp [n_after, nx_after]

/-- The last to write a slot, or a block, has it. -/
theorem app_env_last (D : Nat → Bool) (t : Nat) : ∀ (tr : List Rec) (i : Nat) (s : St) (j : Nat) (r : Rec), tr[j]? = some r → r.o.dst = some t → D (i + j) = true →
    (∀ (j' : Nat) (r' : Rec), tr[j']? = some r' → r'.o.dst = some t → j' = j) → look (app D i tr s).env t = r.v
  | [], i, s, j, r, h, _, _, _ => by simp at h
  | r0 :: tr, i, s, j, r, h, ht, hD, hu => by
    simp only [app]
    cases j with
    | zero =>
      simp only [List.getElem?_cons_zero, Option.some.injEq] at h
      subst h
      rw [Nat.add_zero] at hD
      rw [hD]
      rw [app_env D (fun _ => false) t tr (i + 1) _ _ rfl (fun j' r' hj ht' => by have := hu (j' + 1) r' (by simpa using hj) ht'; omega)]
      have : ∀ (tr : List Rec) (i : Nat) (s : St), app (fun _ => false) i tr s = s := by
        intro tr
        induction tr with
        | nil => intro i s; rfl
        | cons _ _ ih => intro i s; simp only [app, cond_false]; exact ih _ _
      rw [this]
      simp [look_after, ht]
    | succ j =>
      refine app_env_last D t tr (i + 1) _ j r (by simpa using h) ht (by rw [show i + 1 + j = i + (j + 1) by omega]; exact hD) fun j' r' hj' ht' => ?_
      have := hu (j' + 1) r' (by simpa using hj') ht'
      omega

theorem app_h_last (D : Nat → Bool) (b : Nat) : ∀ (tr : List Rec) (i : Nat) (s : St) (j : Nat) (r : Rec), tr[j]? = some r → b ∈ keysOf r.d → D (i + j) = true →
    (∀ (j' : Nat) (r' : Rec), tr[j']? = some r' → b ∈ keysOf r'.d → j < j' → D (i + j') = false) → lookB (app D i tr s).h b = lookB r.d b
  | [], i, s, j, r, h, _, _, _ => by simp at h
  | r0 :: tr, i, s, j, r, h, ht, hD, hu => by
    simp only [app]
    cases j with
    | zero =>
      simp only [List.getElem?_cons_zero, Option.some.injEq] at h
      subst h
      rw [Nat.add_zero] at hD
      rw [hD]
      rw [app_h D (fun _ => false) b tr (i + 1) _ _ rfl (fun j' r' hj ht' => by have := hu (j' + 1) r' (by simpa using hj) ht' (by omega); rw [show i + 1 + j' = i + (j' + 1) by omega]; exact this)]
      have : ∀ (tr : List Rec) (i : Nat) (s : St), app (fun _ => false) i tr s = s := by
        intro tr
        induction tr with
        | nil => intro i s; rfl
        | cons _ _ ih => intro i s; simp only [app, cond_false]; exact ih _ _
      rw [this]
      simp only [cond_true, h_after, lookB_append, if_pos ht]
    | succ j =>
      refine app_h_last D b tr (i + 1) _ j r (by simpa using h) ht (by rw [show i + 1 + j = i + (j + 1) by omega]; exact hD) fun j' r' hj' ht' hlt => ?_
      have := hu (j' + 1) r' (by simpa using hj') ht' (by omega)
      rw [show i + 1 + j' = i + (j' + 1) by omega]; exact this

/-! ### the trace -/
theorem guard_same {all : Array Oper} {s s' : St} {o : Oper} (h : ∀ t ∈ opTmps all o, look s'.env t = look s.env t) : guardOf all s' o = guardOf all s o := by
  unfold guardOf
  split
  · rfl
  · rename_i j want hg
    split
    · rfl
    · rename_i tg htg
      rw [h tg (List.mem_append_left _ (by rw [hg]; simp [htg]))]

/-- An operation is known; of an open truth, which it is. -/
def IsR (P : Program) (φ : Specs) (ih : Task → St → T) (s : St) (k : Nat) (o : Oper) (v : V) (d : Hp) (k1 : Nat) : Prop :=
  ∃ v0, Is P φ ih s k o v0 d k1 ∧ (v = v0 ∨ (placeOf s o = none ∧ ∃ q, v0 = .v (.bool q) ∧ v = .c (.bool q)))
theorem splitG_sat {g : Bool} {v : V} {K : V → T} {Q : Ex → St → Prop} (h : (splitG g v K).sat Q) : ∃ v', (K v').sat Q ∧ (v' = v ∨ (g = true ∧ ∃ q, v = .v (.bool q) ∧ v' = .c (.bool q))) := by
  unfold splitG at h
  split at h
  · rename_i q
    cases g with
    | false => exact ⟨_, h, .inl rfl⟩
    | true =>
      cases q with
      | true => exact ⟨_, h.1 rfl, .inr ⟨rfl, true, rfl, rfl⟩⟩
      | false => exact ⟨_, h.2 rfl, .inr ⟨rfl, false, rfl, rfl⟩⟩
  · exact ⟨_, h, .inl rfl⟩
theorem isR_ok (hφ : Good P φ) {ih : Task → St → T} {n : Nat} (hs : ∀ F w0, RomOk φ.rom F w0 → Sd P F w0 n ih) (hrom : RomOk φ.rom F₀ w0) {s : St} {k k1 : Nat} {o : Oper} {v : V} {d : Hp} (h : IsR P φ ih s k o v d k1) (hk : ∀ j, has s.h j → ¬ (k ≤ j ∧ j < k1))
    {β : Nat → Nat} {a : Act} {w : World} (H : HR F₀ w0 β s.h w) (hr : RE β s a) (next : Act → World → Prop) (Q : Exit → Act → World → Prop)
    (hn : ∀ β' w' x, HR F₀ w0 β' (d ++ s.h) w' → (∀ j, has s.h j → β' j = β j) → (v ≠ .u → x = den β' v) → (∀ j, j ∈ refs v → has (d ++ s.h) j) → next (a.put o.dst x) w') : o.wp P a w next Q := by
  obtain ⟨v0, h, hv⟩ := h
  refine is_ok hφ hs hrom h hk H hr next Q fun β' w' x h1 h2 h3 h4 => ?_
  rcases hv with rfl | ⟨_, q, rfl, rfl⟩
  · exact hn β' w' x h1 h2 h3 h4
  · exact hn β' w' x h1 h2 (fun _ => h3 (by simp)) (fun j hj => by simp [refs] at hj)

/-- What the trace says of an operation. -/
def RecOk (P : Program) (φ : Specs) (ih : Task → St → T) (all : Array Oper) (s : St) (k : Nat) (o : Oper) (r : Rec) : Prop :=
  r.o = o ∧ dstOk s o.dst = true ∧ r.k0 = k ∧ guardOf all s o = some r.on ∧
    (r.on = true → r.tc = tch s o ∧ r.pt = placeOf s o ∧ IsR P φ ih s k o r.v r.d r.k1) ∧ (r.on = false → r.v = .c undef ∧ r.d = [] ∧ r.tc = [] ∧ r.pt = none ∧ r.k1 = k)

theorem app_zero (tr : List Rec) : ∀ (i : Nat) (s : St), app (fun j => decide (j < 0)) i tr s = s := by
  induction tr with
  | nil => intro i s; rfl
  | cons _ _ ih => intro i s; simp only [app]; rw [show decide (i < 0) = false by simp]; exact ih _ _

theorem app_succ (i : Nat) (tr : List Rec) : ∀ (m : Nat) (s : St), app (fun j => decide (j < i + 1)) (m + 1) tr s = app (fun j => decide (j < i)) m tr s := by
  induction tr with
  | nil => intro m s; rfl
  | cons _ _ ih => intro m s; simp only [app]; rw [ih (m + 1), show decide (m + 1 < i + 1) = decide (m < i) by simp]

theorem trace_sat {ih : Task → St → T} {all : Array Oper} {Q : Ex → St → Prop} : ∀ (l : List Oper) (k : Nat) (s : St) (K : List Rec → Nat → T), (traceT P φ ih all k l s K).sat Q →
    ∃ tr k', (K tr k').sat Q ∧ tr.length = l.length ∧ k ≤ k' ∧ ∀ (i : Nat) (o : Oper), l[i]? = some o → ∃ r, tr[i]? = some r ∧ RecOk P φ ih all (app (fun j => decide (j < i)) 0 tr s) r.k0 o r ∧ k ≤ r.k0 ∧ r.k1 ≤ k' ∧ r.k0 ≤ r.k1
  | [], k, s, K, h => ⟨[], k, h, rfl, Nat.le_refl _, fun i o ho => by simp at ho⟩
  | o :: l, k, s, K, h => by
    simp only [traceT] at h
    cases hd : dstOk s o.dst with
    | false => rw [hd] at h; exact h.elim
    | true =>
    rw [hd] at h
    simp only [cond_true] at h
    have go : ∀ (r : Rec), RecOk P φ ih all s k o r → k ≤ r.k1 → (traceT P φ ih all r.k1 l (X.after s r) fun tr k' => K (r :: tr) k').sat Q →
        ∃ tr k', (K tr k').sat Q ∧ tr.length = (o :: l).length ∧ k ≤ k' ∧ ∀ (i : Nat) (o' : Oper), (o :: l)[i]? = some o' → ∃ r, tr[i]? = some r ∧ RecOk P φ ih all (app (fun j => decide (j < i)) 0 tr s) r.k0 o' r ∧ k ≤ r.k0 ∧ r.k1 ≤ k' ∧ r.k0 ≤ r.k1 := by
      intro r hrok hk1 h
      obtain ⟨tr, k', h1, h2, h3, h4⟩ := trace_sat l r.k1 _ _ h
      have hk0 : r.k0 = k := hrok.2.2.1
      refine ⟨r :: tr, k', h1, by simp [h2], Nat.le_trans hk1 h3, fun i o' ho => ?_⟩
      cases i with
      | zero =>
        simp only [List.getElem?_cons_zero, Option.some.injEq] at ho
        subst ho
        refine ⟨r, rfl, ?_, by omega, h3, by omega⟩
        rw [app_zero, hk0]
        exact hrok
      | succ i =>
        obtain ⟨r', j1, j2, j3, j4, j5⟩ := h4 i o' (by simpa using ho)
        refine ⟨r', by simpa using j1, ?_, by omega, j4, j5⟩
        simp only [app, Nat.zero_lt_succ, decide_true, cond_true]
        rw [app_succ]
        exact j2
    split at h
    · exact h.elim
    · rename_i hg
      exact go ⟨o, .c undef, [], [], k, k, false, none⟩ ⟨rfl, hd, rfl, hg, fun e => Bool.noConfusion e, fun _ => ⟨rfl, rfl, rfl, rfl, rfl⟩⟩ (Nat.le_refl _) h
    · rename_i hg
      obtain ⟨v, d, k1, his, h⟩ := oneT_sat h
      have hk1 : k ≤ k1 := is_le his
      obtain ⟨v', h, hv⟩ := splitG_sat h
      refine go ⟨o, v', d, tch s o, k, k1, true, placeOf s o⟩ ⟨rfl, hd, rfl, hg, fun _ => ⟨rfl, rfl, v, his, ?_⟩, fun e => Bool.noConfusion e⟩ hk1 h
      rcases hv with hv | ⟨hg, q, h1, h2⟩
      · exact .inl hv
      · rw [Bool.and_eq_true] at hg
        exact .inr ⟨Option.isNone_iff_eq_none.1 hg.2, q, h1, h2⟩

theorem masks_get : ∀ (l : List Oper) (acc ms : List Nat), masks l acc = some ms → (∃ tl, ms = acc ++ tl) ∧ ms.length = acc.length + l.length ∧
    ∀ (i : Nat) (o : Oper), l[i]? = some o → (∀ e ∈ bound o, e.on < acc.length + i) ∧ ∀ j, (ms.getD (acc.length + i) 0).testBit j = true → ∃ e ∈ bound o, e.on = j ∨ (ms.getD e.on 0).testBit j = true
  | [], acc, ms, h => by
    simp only [masks, Option.some.injEq] at h
    subst h
    exact ⟨⟨[], by simp⟩, by simp, fun i o h => by simp at h⟩
  | o :: l, acc, ms, h => by
    simp only [masks] at h
    obtain ⟨hq, h⟩ := bif_some' h
    obtain ⟨⟨tl, h1⟩, h2, h3⟩ := masks_get l _ ms h
    refine ⟨⟨_ :: tl, by rw [h1]; simp; rfl⟩, by rw [h2]; simp; omega, fun i o' ho => ?_⟩
    cases i with
    | zero =>
      simp only [List.getElem?_cons_zero, Option.some.injEq] at ho
      subst ho
      have hedges : ∀ e ∈ bound o, e.on < acc.length := by
        intro e he
        have := List.all_eq_true.1 hq e he
        exact Nat.le_of_ble_eq_true this
      refine ⟨fun e he => by have := hedges e he; omega, fun j hj => ?_⟩
      have hm : ms.getD (acc.length + 0) 0 = (bound o).foldl (fun m e => m ||| 2 ^ e.on ||| acc.getD e.on 0) 0 := by
        rw [h1]; simp [List.getD_eq_getElem?_getD]
      rw [hm] at hj
      have hf : ∀ (es : List Edge) (m0 : Nat), (es.foldl (fun m e => m ||| 2 ^ e.on ||| acc.getD e.on 0) m0).testBit j = true → m0.testBit j = true ∨ ∃ e ∈ es, e.on = j ∨ (acc.getD e.on 0).testBit j = true := by
        intro es
        induction es with
        | nil => intro m0 h; exact .inl h
        | cons e es ih =>
          intro m0 h
          rcases ih _ h with h | ⟨e', he', h⟩
          · rw [Nat.testBit_or, Nat.testBit_or, Bool.or_eq_true, Bool.or_eq_true] at h
            rcases h with (h | h) | h
            · exact .inl h
            · rw [Nat.testBit_two_pow] at h
              exact .inr ⟨e, by simp, .inl (by simpa using h)⟩
            · exact .inr ⟨e, by simp, .inr h⟩
          · exact .inr ⟨e', by simp [he'], h⟩
      rcases hf _ 0 hj with h0 | ⟨e, he, h0⟩
      · simp at h0
      · refine ⟨e, he, h0.imp id fun h0 => ?_⟩
        have hlt := hedges e he
        rw [h1, List.append_assoc]
        rw [List.getD_eq_getElem?_getD, List.getElem?_append_left hlt, ← List.getD_eq_getElem?_getD]
        exact h0
    | succ i =>
      have := h3 i o' (by simpa using ho)
      simp only [List.length_append, List.length_singleton] at this
      rw [show acc.length + (i + 1) = acc.length + 1 + i by omega]
      exact this
end
end Go.Proofs.YtfjldllegmfooaaDoor.X
end

section
/- A region whose order is open, and where the order makes no difference: the theorem. No condition. -/
namespace Go.Proofs.YtfjldllegmfooaaDoor.X
open Go.RowKit

section
variable {P : Program} {φ : Specs} {F₀ : Nat → Prop} {w0 : World}

theorem RE.congr {β : Nat → Nat} {s s' : St} {a : Act} (hr : RE β s a) (he : ∀ t, look s'.env t = look s.env t) (hh : ∀ b, lookB s'.h b = lookB s.h b) (hn : s'.n = s.n) (hx : s'.nx = s.nx) : RE β s' a := by
  refine ⟨hr.defers, by rw [hn]; exact hr.size, fun t ht => ?_, fun t j hj => ?_, fun j ⟨b, hj⟩ => ?_⟩
  · rw [he] at ht ⊢; rw [hn]; exact hr.val t ht
  · rw [he] at hj
    obtain ⟨b, hb⟩ := hr.wf t j hj
    exact ⟨b, by rw [hh]; exact hb⟩
  · rw [hx]; exact hr.fresh j ⟨b, by rw [← hh]; exact hj⟩

theorem HR.drew {β : Nat → Nat} {h : Hp} {w : World} (H : HR F₀ w0 β h w) : HR F₀ w0 β h { w with drawn := w.drawn + 1 } :=
  ⟨H.os, H.tape, H.output, H.size, H.keep, H.blk, H.own, H.inj, H.wf⟩

def yes : Value → Option Bool
  | .bool b => some b
  | _ => none

theorem yielded_of {all : Array Oper} {a : Act} {j tg : Nat} (h : (all[j]?).bind (·.dst) = some tg) {v : Value} (ht : tg < a.tmps.size) (hv : a.tmps.getD tg undef = v) :
    yielded all a.tmps j = yes v := by
  unfold yielded
  rw [h]
  have : a.tmps[tg]? = some v := by
    rw [Array.getD_eq_getD_getElem?, Array.getElem?_eq_getElem ht] at hv
    rw [Array.getElem?_eq_getElem ht]
    exact congrArg some hv
  simp only [Option.bind_some, this]
  cases v <;> rfl

theorem wanted_of {all : Array Oper} {β : Nat → Nat} {s : St} {a : Act} {o : Oper} {q : Bool} (h : guardOf all s o = some q) (hr : RE β s a) : Region.wanted o (yielded all a.tmps) = q := by
  unfold guardOf at h
  split at h
  · rename_i hg
    simp only [Option.some.injEq] at h
    subst h
    simp [Region.wanted, hg]
  · rename_i j want hg
    split at h
    · cases h
    · rename_i tg htg
      split at h
      · rename_i b hq
        simp only [Option.some.injEq] at h
        subst h
        obtain ⟨v1, v2⟩ := hr.val tg (by rw [hq]; simp)
        rw [hq] at v2
        have hy := yielded_of htg (by rw [hr.size]; exact v1) v2
        simp only [den, yes] at hy
        simp only [Region.wanted, hg, hy]
        cases b <;> cases want <;> rfl
      · rename_i xs hq
        simp only [Option.some.injEq] at h
        subst h
        obtain ⟨v1, v2⟩ := hr.val tg (by rw [hq]; simp)
        rw [hq] at v2
        have hy := yielded_of htg (by rw [hr.size]; exact v1) v2
        simp only [den, yes] at hy
        simp only [Region.wanted, hg, hy]
        cases want <;> rfl
      · cases h

/-! ### loads that may come up at several times -/
theorem eqAt_ok {x y : Value} (h : eqAt x y = true) : x = y := by
  unfold eqAt at h
  split at h
  · rename_i k a k' b
    split at h
    · rename_i e _; subst e
      split at h
      · rename_i e _; subst e; rfl
      · cases h
    · cases h
  · split at h
    · rename_i e _; subst e; rfl
    · cases h
  · rename_i a b
    split at h
    · rename_i e _
      cases a with | mk a => cases b with | mk b => exact congrArg (fun d => Value.string ⟨d⟩) (Array.ext' e)
    · cases h
  · rfl
  · rw [Bool.and_eq_true] at h
    rw [Nat.eq_of_beq_eq_true h.1, Nat.eq_of_beq_eq_true h.2]
  · cases h

mutual
theorem eqV_ok : ∀ (x y : V), eqV x y = true → x = y
  | .c x, y, h => by
    cases y <;> simp only [eqV] at h <;> first | (cases h; done) | (rw [eqAt_ok h])
  | .p j o, y, h => by
    cases y <;> simp only [eqV, Bool.and_eq_true] at h <;> first | (cases h; done) | (rw [Nat.eq_of_beq_eq_true h.1, Nat.eq_of_beq_eq_true h.2])
  | .sl j o n cap, y, h => by
    cases y <;> simp only [eqV, Bool.and_eq_true] at h <;> first | (cases h; done) | (rw [Nat.eq_of_beq_eq_true h.1.1.1, Nat.eq_of_beq_eq_true h.1.1.2, Nat.eq_of_beq_eq_true h.1.2, Nat.eq_of_beq_eq_true h.2])
  | .s j c n, y, h => by
    cases y <;> simp only [eqV, Bool.and_eq_true] at h <;> first | (cases h; done) | (rw [Nat.eq_of_beq_eq_true h.1.1, Nat.eq_of_beq_eq_true h.1.2, Nat.eq_of_beq_eq_true h.2])
  | .m j, y, h => by
    cases y <;> simp only [eqV] at h <;> first | (cases h; done) | (rw [Nat.eq_of_beq_eq_true h])
  | .a xs, y, h => by
    cases y <;> simp only [eqV] at h <;> first | (cases h; done) | (rw [eqVL_ok xs _ h])
  | .v x, y, h => by simp [eqV] at h
  | .f g xs ys, y, h => by simp [eqV] at h
  | .t xs, y, h => by simp [eqV] at h
  | .u, y, h => by simp [eqV] at h
theorem eqVL_ok : ∀ (xs ys : List V), eqVL xs ys = true → xs = ys
  | [], ys, h => by cases ys with | nil => rfl | cons => simp [eqVL] at h
  | x :: xs, ys, h => by
    cases ys with
    | nil => simp [eqVL] at h
    | cons y ys =>
      simp only [eqVL, Bool.and_eq_true] at h
      rw [eqV_ok x y h.1, eqVL_ok xs ys h.2]
end

theorem mayBe_sat {t : TypeId} {o : Nat} {v : V} {b : Option Blk} {rest : T} {Q : Ex → St → Prop} (h : (mayBe P t o v b rest).sat Q) : loadB P t o b = some v ∧ rest.sat Q := by
  unfold mayBe at h
  split at h
  · exact h.elim
  · rename_i x hx
    cases e : eqV x v with
    | true => rw [e] at h; exact ⟨by rw [hx, eqV_ok x v e], h⟩
    | false => rw [e] at h; exact ⟨by rw [hx, h.1], h.2⟩

theorem alts_sat {t : TypeId} {b o : Nat} {v : V} {i mi : Nat} {ms : List Nat} {rest : T} {Q : Ex → St → Prop} : ∀ (l : List (Rec × Nat)), (alts P t b o v i mi ms rest l).sat Q →
    (∀ x ∈ l, b ∈ keysOf x.1.d → behind x.2 i (ms.getD x.2 0) = false → i ≠ x.2 → loadB P t o (lookB x.1.d b) = some v) ∧ rest.sat Q
  | [], h => ⟨by simp, h⟩
  | (rj, j) :: l, h => by
    simp only [alts] at h
    cases hc : ((keysOf rj.d).any (Nat.beq b) && !(behind j i (ms.getD j 0)) && !(Nat.beq i j)) with
    | true =>
      rw [hc] at h
      obtain ⟨h1, h2⟩ := mayBe_sat h
      obtain ⟨h3, h4⟩ := alts_sat l h2
      refine ⟨fun x hx hb hn hne => ?_, h4⟩
      rcases List.mem_cons.1 hx with rfl | hx
      · exact h1
      · exact h3 x hx hb hn hne
    | false =>
      rw [hc] at h
      obtain ⟨h3, h4⟩ := alts_sat l h
      refine ⟨fun x hx hb hn hne => ?_, h4⟩
      rcases List.mem_cons.1 hx with rfl | hx
      · exfalso
        have e1 : (keysOf rj.d).any (Nat.beq b) = true := List.any_eq_true.2 ⟨b, hb, by simp⟩
        have e2 : Nat.beq i j = false := beq_ne hne
        rw [e1, hn, e2] at hc
        cases hc
      · exact h3 x hx hb hn hne

theorem loads_sat {s : St} {tr0 : List (Rec × Nat)} {ms : List Nat} {rest : T} {Q : Ex → St → Prop} : ∀ (l : List (Rec × Nat)), (loads P s tr0 ms rest l).sat Q →
    (∀ x ∈ l, ∀ t b o, x.1.pt = some (t, b, o) → open_ b x.2 (ms.getD x.2 0) ms tr0 = true →
      loadB P t o (lookB s.h b) = some x.1.v ∧ ∀ y ∈ tr0, b ∈ keysOf y.1.d → behind y.2 x.2 (ms.getD y.2 0) = false → x.2 ≠ y.2 → loadB P t o (lookB y.1.d b) = some x.1.v) ∧ rest.sat Q
  | [], h => ⟨by simp, h⟩
  | (ri, i) :: l, h => by
    simp only [loads] at h
    split at h
    · rename_i hpt
      obtain ⟨h1, h2⟩ := loads_sat l h
      refine ⟨fun x hx t b o hp ho => ?_, h2⟩
      rcases List.mem_cons.1 hx with rfl | hx
      · rw [hpt] at hp; cases hp
      · exact h1 x hx t b o hp ho
    · rename_i t b o hpt
      cases ho : open_ b i (ms.getD i 0) ms tr0 with
      | true =>
        rw [ho] at h
        obtain ⟨h1, h2⟩ := mayBe_sat h
        obtain ⟨h3, h4⟩ := alts_sat _ h2
        obtain ⟨h5, h6⟩ := loads_sat l h4
        refine ⟨fun x hx t' b' o' hp ho' => ?_, h6⟩
        rcases List.mem_cons.1 hx with rfl | hx
        · rw [hpt] at hp
          simp only [Option.some.injEq, Prod.mk.injEq] at hp
          obtain ⟨rfl, rfl, rfl⟩ := hp
          exact ⟨h1, h3⟩
        · exact h5 x hx t' b' o' hp ho'
      | false =>
        rw [ho] at h
        obtain ⟨h5, h6⟩ := loads_sat l h
        refine ⟨fun x hx t' b' o' hp ho' => ?_, h6⟩
        rcases List.mem_cons.1 hx with rfl | hx
        · rw [hpt] at hp
          simp only [Option.some.injEq, Prod.mk.injEq] at hp
          obtain ⟨rfl, rfl, rfl⟩ := hp
          rw [ho] at ho'; cases ho'
        · exact h5 x hx t' b' o' hp ho'

theorem app_cases (D : Nat → Bool) (b : Nat) : ∀ (tr : List Rec) (i : Nat) (s : St), lookB (app D i tr s).h b = lookB s.h b ∨ ∃ j r, tr[j]? = some r ∧ D (i + j) = true ∧ b ∈ keysOf r.d ∧ lookB (app D i tr s).h b = lookB r.d b
  | [], _, _ => .inl rfl
  | r :: tr, i, s => by
    simp only [app]
    rcases app_cases D b tr (i + 1) (bif D i then X.after s r else s) with h | ⟨j, r', h1, h2, h3, h4⟩
    · rw [h]
      cases hD : D i with
      | false => exact .inl rfl
      | true =>
        simp only [cond_true, h_after, lookB_append]
        by_cases hb : b ∈ keysOf r.d
        · rw [if_pos hb]
          exact .inr ⟨0, r, rfl, by simpa using hD, hb, rfl⟩
        · rw [if_neg hb]; exact .inl rfl
    · exact .inr ⟨j + 1, r', by simpa using h1, by rw [show i + (j + 1) = i + 1 + j by omega]; exact h2, h3, h4⟩

/-- The operations behind others are done behind them. -/
def Shut (ops : Array Oper) (D : Nat → Bool) : Prop := ∀ (x : Nat) (o : Oper), ops[x]? = some o → D x = true → ∀ e ∈ bound o, D e.on = true

/-- i comes up next. -/
def Next_ (ops : Array Oper) (D : Nat → Bool) (i : Nat) : Prop := ∀ (x : Nat) (o : Oper), ops[x]? = some o → (D x = true ∨ x = i) → ∀ e ∈ bound o, D e.on = true

/-- The facts of a region that was found to be of one outcome. -/
structure Plan (P : Program) (φ : Specs) (ih : Task → St → T) (ops : Array Oper) (k k' : Nat) (s : St) (tr : List Rec) : Prop where
  len : tr.length = ops.size
  op : ∀ (i : Nat) (o : Oper), ops[i]? = some o → ∃ r, tr[i]? = some r ∧ RecOk P φ ih ops (app (fun j => decide (j < i)) 0 tr s) r.k0 o r ∧ k ≤ r.k0 ∧ r.k1 ≤ k' ∧ r.k0 ≤ r.k1
  edge : ∀ (i : Nat) (o : Oper), ops[i]? = some o → ∀ e ∈ bound o, e.on < i
  dst : ∀ (i j : Nat) (ri rj : Rec) (t : Nat), tr[i]? = some ri → tr[j]? = some rj → ri.o.dst = some t → rj.o.dst = some t → i = j
  data : ∀ (i j : Nat) (ri rj : Rec) (t : Nat) (D : Nat → Bool), tr[i]? = some ri → tr[j]? = some rj → rj.o.dst = some t → t ∈ opTmps ops ri.o → i ≠ j → D i = false → Next_ ops D i → (j < i ∧ D j = true) ∨ (i < j ∧ D j = false)
  heap : ∀ (i j : Nat) (ri rj : Rec) (b : Nat) (D : Nat → Bool), tr[i]? = some ri → tr[j]? = some rj → b ∈ keysOf rj.d → b ∈ ri.tc → i ≠ j → D i = false → Next_ ops D i →
    (j < i ∧ D j = true) ∨ (i < j ∧ D j = false) ∨ (ri.pt.isSome = true ∧ ¬ b ∈ keysOf ri.d)
  keys : ∀ (i : Nat) (ri : Rec) (b : Nat), tr[i]? = some ri → b ∈ keysOf ri.d → b ∈ ri.tc ∨ (ri.k0 ≤ b ∧ b < ri.k1)
  new : ∀ (i j : Nat) (ri rj : Rec) (b : Nat), tr[i]? = some ri → tr[j]? = some rj → b ∈ keysOf rj.d → i ≠ j → (ri.k0 ≤ b ∧ b < ri.k1) → i < j ∧ ∀ D : Nat → Bool, Shut ops D → D j = true → D i = true
  load : ∀ (i : Nat) (ri : Rec) (t : TypeId) (b o : Nat) (D : Nat → Bool), tr[i]? = some ri → ri.pt = some (t, b, o) → D i = false → Next_ ops D i →
    loadB P t o (lookB (app D 0 tr s).h b) = some ri.v ∨ ∀ (j : Nat) (rj : Rec), tr[j]? = some rj → b ∈ keysOf rj.d → D j = decide (j < i)

theorem any_beq {l : List Nat} {b : Nat} (h : b ∈ l) : l.any (Nat.beq b) = true := List.any_eq_true.2 ⟨b, h, by simp⟩
theorem not_any_beq {l : List Nat} {b : Nat} (h : l.any (Nat.beq b) = false) : ¬ b ∈ l := fun hb => by rw [any_beq hb] at h; cases h

theorem plan_of {ih : Task → St → T} {ops : Array Oper} {k k' : Nat} {s : St} {tr : List Rec} {ms : List Nat} {rest : T} {Q : Ex → St → Prop} (hlen : tr.length = ops.toList.length)
    (hop : ∀ (i : Nat) (o : Oper), ops.toList[i]? = some o → ∃ r, tr[i]? = some r ∧ RecOk P φ ih ops (app (fun j => decide (j < i)) 0 tr s) r.k0 o r ∧ k ≤ r.k0 ∧ r.k1 ≤ k' ∧ r.k0 ≤ r.k1)
    (hm : masks ops.toList [] = some ms) (hok : okAll ops tr ms = true) (hl : (loads P s tr.zipIdx ms rest tr.zipIdx).sat Q) :
    Plan P φ ih ops k k' s tr := by
  obtain ⟨_, m1, m2⟩ := masks_get _ _ _ hm
  simp only [List.length_nil, Nat.zero_add] at m1 m2
  have hedge : ∀ (i : Nat) (o : Oper), ops[i]? = some o → ∀ e ∈ bound o, e.on < i := fun i o ho => (m2 i o (by simpa using ho)).1
  have clos : ∀ (i : Nat) (D : Nat → Bool), Next_ ops D i → ∀ y, (D y = true ∨ y = i) → y < ops.size → ∀ j, (ms.getD y 0).testBit j = true → D j = true := by
    intro i D hD y
    induction y using Nat.strongRecOn with
    | _ y ih =>
      intro hy hlt j hj
      obtain ⟨e, he, h⟩ := (m2 y ops[y] (by simp [hlt])).2 j hj
      have hDe := hD y ops[y] (by simp [hlt]) hy e he
      rcases h with h | h
      · rw [← h]; exact hDe
      · have hl := (hedge y ops[y] (by simp [hlt]) e he)
        exact ih e.on hl (.inl hDe) (by omega) j h
  have hall : ∀ (i : Nat) (ri : Rec), tr[i]? = some ri → ((keysOf ri.d).all fun b => ri.tc.any (Nat.beq b) || inRange ri b) = true ∧
      ∀ (j : Nat) (rj : Rec), tr[j]? = some rj → i ≠ j → okPair ops i j ri rj (ms.getD i 0) (ms.getD j 0) = true := by
    intro i ri hi
    have h1 := List.all_eq_true.1 hok (ri, i) (List.mem_zipIdx_iff_getElem?.2 (by simpa using hi))
    simp only [Bool.and_eq_true] at h1
    refine ⟨h1.1, fun j rj hj hne => ?_⟩
    have h2 := List.all_eq_true.1 h1.2 (rj, j) (List.mem_zipIdx_iff_getElem?.2 (by simpa using hj))
    simp only [Bool.or_eq_true] at h2
    rcases h2 with h2 | h2
    · exact absurd (Nat.eq_of_beq_eq_true h2) hne
    · exact h2
  have lt_of : ∀ (i : Nat) (r : Rec), tr[i]? = some r → i < ops.size := fun i r h => by
    have := (List.getElem?_eq_some_iff.1 h).1
    simpa [hlen] using this
  have beh : ∀ (i j : Nat) (ri : Rec) (D : Nat → Bool), tr[i]? = some ri → Next_ ops D i → behind i j (ms.getD i 0) = true → j < i ∧ D j = true := by
    intro i j ri D hi hD h
    unfold behind at h
    rw [Bool.and_eq_true] at h
    exact ⟨Nat.le_of_ble_eq_true h.1, clos i D hD i (.inr rfl) (lt_of i ri hi) j h.2⟩
  have beh2 : ∀ (i j : Nat) (rj : Rec) (D : Nat → Bool), tr[j]? = some rj → Next_ ops D i → D i = false → behind j i (ms.getD j 0) = true → i < j ∧ D j = false := by
    intro i j rj D hj hD hDi h
    unfold behind at h
    rw [Bool.and_eq_true] at h
    refine ⟨Nat.le_of_ble_eq_true h.1, ?_⟩
    cases hDj : D j with
    | false => rfl
    | true =>
      have := clos i D hD j (.inl hDj) (lt_of j rj hj) i h.2
      rw [hDi] at this
      cases this
  obtain ⟨hld, _⟩ := loads_sat _ hl
  refine ⟨by simpa using hlen, fun i o ho => hop i o (by simpa using ho), hedge, fun i j ri rj t hi hj h1 h2 => ?_, fun i j ri rj t D hi hj h1 h2 hne hDi hD => ?_, fun i j ri rj b D hi hj h1 h2 hne hDi hD => ?_, fun i ri b hi hb => ?_, fun i j ri rj b hi hj hb hne hbk => ?_, fun i ri t b o D hi hp hDi hD => ?_⟩
  · by_cases e : i = j
    · exact e
    · exfalso
      have := (hall i ri hi).2 j rj hj e
      unfold okPair at this
      rw [h1, h2] at this
      simp at this
  · have := (hall i ri hi).2 j rj hj hne
    unfold okPair at this
    simp only [Bool.and_eq_true] at this
    have h3 := this.1.2
    rw [h1] at h3
    simp only [any_beq h2, Bool.not_true, Bool.false_or, Bool.or_eq_true] at h3
    rcases h3 with h3 | h3
    · exact .inl (beh i j ri D hi hD h3)
    · exact .inr (beh2 i j rj D hj hD hDi h3)
  · have := (hall i ri hi).2 j rj hj hne
    unfold okPair at this
    simp only [Bool.and_eq_true] at this
    have h3 := List.all_eq_true.1 this.2 b h1
    rw [Bool.and_eq_true] at h3
    have h3 := h3.1
    simp only [any_beq h2, Bool.not_true, Bool.false_or, Bool.or_eq_true] at h3
    rcases h3 with (h4 | h4) | h4
    · exact .inl (beh i j ri D hi hD h4)
    · exact .inr (.inl (beh2 i j rj D hj hD hDi h4))
    · rw [Bool.and_eq_true] at h4
      exact .inr (.inr ⟨h4.1, fun hb => by rw [any_beq hb] at h4; exact Bool.noConfusion h4.2⟩)
  · have := List.all_eq_true.1 (hall i ri hi).1 b hb
    simp only [Bool.or_eq_true] at this
    rcases this with h1 | h1
    · obtain ⟨c, hc, h2⟩ := List.any_eq_true.1 h1
      rw [Nat.eq_of_beq_eq_true h2]
      exact .inl hc
    · unfold inRange at h1
      rw [Bool.and_eq_true] at h1
      exact .inr ⟨Nat.le_of_ble_eq_true h1.1, Nat.le_of_ble_eq_true h1.2⟩
  · have := (hall i ri hi).2 j rj hj hne
    unfold okPair at this
    simp only [Bool.and_eq_true] at this
    have h3 := List.all_eq_true.1 this.2 b hb
    rw [Bool.and_eq_true] at h3
    have h3 := h3.2
    have hin : inRange ri b = true := by
      unfold inRange
      rw [Bool.and_eq_true]
      exact ⟨Nat.ble_eq_true_of_le hbk.1, Nat.ble_eq_true_of_le hbk.2⟩
    rw [hin] at h3
    simp only [Bool.not_true, Bool.false_or] at h3
    unfold behind at h3
    rw [Bool.and_eq_true] at h3
    exact ⟨Nat.le_of_ble_eq_true h3.1, fun D hD hDj => clos j D (fun x o ho hx => hD x o ho (hx.elim id fun e => by rw [e]; exact hDj)) j (.inl hDj) (lt_of j rj hj) i h3.2⟩
  · cases ho : open_ b i (ms.getD i 0) ms tr.zipIdx with
    | true =>
      refine .inl ?_
      obtain ⟨h1, h2⟩ := hld (ri, i) (List.mem_zipIdx_iff_getElem?.2 (by simpa using hi)) t b o hp ho
      rcases app_cases D b tr 0 s with h3 | ⟨j, rj, h3, h4, h5, h6⟩
      · rw [h3]; exact h1
      · rw [h6]
        rw [Nat.zero_add] at h4
        refine h2 (rj, j) (List.mem_zipIdx_iff_getElem?.2 (by simpa using h3)) h5 ?_ ?_
        · cases hb : behind j i (ms.getD j 0) with
          | false => rfl
          | true =>
            have := (beh2 i j rj D h3 hD hDi hb).2
            rw [h4] at this
            cases this
        · rintro rfl
          simp only at h4
          rw [hDi] at h4; cases h4
    | false =>
      refine .inr fun j rj hj hb => ?_
      have h1 : ((keysOf rj.d).any (Nat.beq b) && !(behind j i (ms.getD j 0)) && !(behind i j (ms.getD i 0))) = false := by
        have := (List.any_eq_false.1 ho) (rj, j) (List.mem_zipIdx_iff_getElem?.2 (by simpa using hj))
        simpa using this
      rw [any_beq hb] at h1
      cases h2 : behind j i (ms.getD j 0) with
      | true =>
        obtain ⟨h3, h4⟩ := beh2 i j rj D hj hD hDi h2
        rw [h4]; symm; simp; omega
      | false =>
        rw [h2] at h1
        simp only [Bool.not_false, Bool.and_self, Bool.true_and, Bool.not_eq_false'] at h1
        obtain ⟨h3, h4⟩ := beh i j ri D hi hD h1
        rw [h4]; simp [h3]

theorem countP_set (l : List Bool) : ∀ (i : Nat), l[i]? = some false → (l.set i true).countP (fun b => !b) + 1 = l.countP fun b => !b := by
  induction l with
  | nil => intro i h; simp at h
  | cons b l ih =>
    intro i h
    cases i with
    | zero => simp only [List.getElem?_cons_zero, Option.some.injEq] at h; subst h; simp
    | succ i =>
      have := ih i (by simpa using h)
      simp only [List.set_cons_succ, List.countP_cons]
      omega

theorem keys_app {tr : List Rec} {s : St} (D : Nat → Bool) (b : Nat) (hb : has (app D 0 tr s).h b) (hD : ∀ j, D j = true → ∀ r : Rec, tr[j]? = some r → ¬ b ∈ keysOf r.d) : has s.h b := by
  obtain ⟨c, hc⟩ := hb
  rcases app_cases D b tr 0 s with h | ⟨j, r, h1, h2, h3, _⟩
  · exact ⟨c, by rw [← h]; exact hc⟩
  · rw [Nat.zero_add] at h2
    exact absurd h3 (hD j h2 r h1)

theorem app_nx (D : Nat → Bool) (m : Nat) : ∀ (tr : List Rec) (i : Nat) (s : St), app D i tr { s with nx := m } = { app D i tr s with nx := m }
  | [], _, _ => rfl
  | r :: tr, i, s => by
    simp only [app]
    cases D i with
    | false => exact app_nx D m tr (i + 1) s
    | true =>
      have : X.after { s with nx := m } r = { X.after s r with nx := m } := by unfold X.after put; cases r.o.dst <;> rfl
      simp only [cond_true]
      rw [this]
      exact app_nx D m tr (i + 1) _

theorem is_nx {ih : Task → St → T} {s : St} {m k k1 : Nat} {o : Oper} {v : V} {d : Hp} (h : Is P φ ih s k o v d k1) : Is P φ ih { s with nx := m } k o v d k1 := by
  refine is_same (s := s) (fun x _ => by cases x <;> rfl) (fun _ _ => rfl) h

theorem tch_nx (s : St) (m : Nat) (o : Oper) : tch { s with nx := m } o = tch s o := by
  have he : ∀ x, ev { s with nx := m } x = ev s x := fun x => by cases x <;> rfl
  have hl : ∀ xs, evL { s with nx := m } xs = evL s xs := fun xs => List.map_congr_left fun x _ => he x
  unfold tch
  simp only [he, hl]

theorem placeOf_nx (s : St) (m : Nat) (o : Oper) : placeOf { s with nx := m } o = placeOf s o := by
  have he : ∀ x, ev { s with nx := m } x = ev s x := fun x => by cases x <;> rfl
  unfold placeOf
  simp only [he]

theorem recOk_nx {ih : Task → St → T} {all : Array Oper} {s : St} {m k : Nat} {o : Oper} {r : Rec} (h : RecOk P φ ih all s k o r) : RecOk P φ ih all { s with nx := m } k o r := by
  obtain ⟨h1, h2, h3, h4, h5, h6⟩ := h
  exact ⟨h1, h2, h3, h4, fun hon => ⟨by rw [tch_nx]; exact (h5 hon).1, by rw [placeOf_nx]; exact (h5 hon).2.1, by obtain ⟨v0, a, b⟩ := (h5 hon).2.2; exact ⟨v0, is_nx a, by rw [placeOf_nx]; exact b⟩⟩, h6⟩

set_option maxHeartbeats 1000000 in
theorem drawn_any (hφ : Good P φ) {n : Nat} {ih : Task → St → T} (hs : ∀ F w0, RomOk φ.rom F w0 → Sd P F w0 n ih) (hrom : RomOk φ.rom F₀ w0) {ops : Array Oper} {k : Nat} {s : St} {tr : List Rec} (pl : Plan P φ ih ops k s.nx s tr) (hk : ∀ j, has s.h j → j < k) {β₀ : Nat → Nat} (Q : Exit → Act → World → Prop)
    (hQ : ∀ β a w, HR F₀ w0 β (app (fun _ => true) 0 tr s).h w → RE β (app (fun _ => true) 0 tr s) a → (∀ j, has s.h j → β j = β₀ j) → Q .normal a w) :
    ∀ (fuel : Nat) (listed : Array Bool) (a : Act) (w : World) (β : Nat → Nat), listed.size = ops.size → listed.toList.countP (fun b => !b) ≤ fuel →
      (∀ (x : Nat) (o : Oper), ops[x]? = some o → listed.getD x false = true → ∀ e ∈ bound o, listed.getD e.on false = true) →
      HR F₀ w0 β (app (fun j => listed.getD j false) 0 tr s).h w → RE β (app (fun j => listed.getD j false) 0 tr s) a → (∀ j, has s.h j → β j = β₀ j) →
      (∀ j, has s.h j → has (app (fun j => listed.getD j false) 0 tr s).h j) → wpAny P .any ops Q fuel listed a w := by
  intro fuel
  have ready_iff : ∀ (listed : Array Bool) (i : Nat), listed.size = ops.size → (i ∈ Region.ready .any ops listed ↔ i < ops.size ∧ listed.getD i false = false ∧ ∀ o, ops[i]? = some o → ∀ e ∈ bound o, listed.getD e.on false = true) := by
    intro listed i hsz
    unfold Region.ready
    rw [List.mem_filter, List.mem_range]
    constructor
    · rintro ⟨h1, h2⟩
      simp only [Bool.and_eq_true, Bool.not_eq_true'] at h2
      obtain ⟨h2, h3⟩ := h2
      have hg : listed.getD i false = false := by
        simp only [Array.getD_eq_getD_getElem?] at h2 ⊢
        rw [Array.getElem?_eq_getElem (by omega)] at h2 ⊢
        exact h2
      refine ⟨h1, hg, fun o ho e he => ?_⟩
      rw [ho] at h3
      simp only [Option.map_some, Option.getD_some] at h3
      obtain ⟨he1, he2⟩ := List.mem_filter.1 he
      have := Array.all_eq_true'.1 h3 e (by simpa using he1)
      rw [he2] at this
      simpa using this
    · rintro ⟨h1, h2, h3⟩
      refine ⟨h1, ?_⟩
      simp only [Bool.and_eq_true, Bool.not_eq_true']
      refine ⟨?_, ?_⟩
      · simp only [Array.getD_eq_getD_getElem?] at h2 ⊢
        rw [Array.getElem?_eq_getElem (by omega)] at h2 ⊢
        exact h2
      · rw [Array.getElem?_eq_getElem h1]
        simp only [Option.map_some, Option.getD_some]
        refine Array.all_eq_true'.2 fun e he => ?_
        cases hb : Region.binds .any e with
        | false => rfl
        | true =>
          rw [h3 _ (Array.getElem?_eq_getElem h1) e (List.mem_filter.2 ⟨by simpa using he, hb⟩)]
          rfl
  have done : ∀ (listed : Array Bool) (a : Act) (w : World) (β : Nat → Nat), listed.size = ops.size → Region.ready .any ops listed = [] →
      HR F₀ w0 β (app (fun j => listed.getD j false) 0 tr s).h w → RE β (app (fun j => listed.getD j false) 0 tr s) a → (∀ j, has s.h j → β j = β₀ j) → Q .normal a w := by
    intro listed a w β hsz hre H hr hβ
    have hall : ∀ i, i < ops.size → listed.getD i false = true := by
      intro i
      induction i using Nat.strongRecOn with
      | _ i ih =>
        intro hi
        cases hl : listed.getD i false with
        | true => rfl
        | false =>
          have : i ∈ Region.ready .any ops listed := (ready_iff listed i hsz).2 ⟨hi, hl, fun o ho e he => ih e.on (pl.edge i o ho e he) (by have := (pl.edge i o ho e he); omega)⟩
          rw [hre] at this
          cases this
    have heq : ∀ j (r : Rec), tr[j]? = some r → listed.getD (0 + j) false = true := fun j r hj => by
      rw [Nat.zero_add]
      exact hall j (by rw [← pl.len]; exact (List.getElem?_eq_some_iff.1 hj).1)
    refine hQ β a w (H.congr fun b => app_h _ _ b tr 0 s s rfl fun j r hj _ => (heq j r hj).symm) (hr.congr (fun t => app_env _ _ t tr 0 s s rfl fun j r hj _ => (heq j r hj).symm) (fun b => app_h _ _ b tr 0 s s rfl fun j r hj _ => (heq j r hj).symm) ?_ ?_) hβ
    · rw [(app_n _ tr 0 s).1, (app_n _ tr 0 s).1]
    · rw [(app_n _ tr 0 s).2, (app_n _ tr 0 s).2]
  induction fuel with
  | zero =>
    intro listed a w β hsz hc hd H hr hβ hmono
    have hnone : Region.ready .any ops listed = [] := by
      apply List.eq_nil_iff_forall_not_mem.2
      intro i hi
      obtain ⟨h1, h2, _⟩ := (ready_iff listed i hsz).1 hi
      have : 0 < listed.toList.countP (fun b => !b) := by
        apply List.countP_pos_iff.2
        refine ⟨false, ?_, rfl⟩
        have h3 : listed[i]? = some false := by
          rw [Array.getD_eq_getD_getElem?] at h2
          rw [Array.getElem?_eq_getElem (by omega)] at h2 ⊢
          simpa using h2
        exact List.mem_of_getElem? (i := i) (by simpa using h3)
      omega
    exact ⟨hnone, done listed a w β hsz hnone H hr hβ⟩
  | succ fuel ihf =>
    intro listed a w β hsz hc hd H hr hβ hmono
    refine ⟨fun hre => done listed a w β hsz hre H hr hβ, fun i hi => ?_⟩
    obtain ⟨hilt, hif, hie⟩ := (ready_iff listed i hsz).1 hi
    have hio : ops[i]? = some ops[i] := Array.getElem?_eq_getElem hilt
    obtain ⟨r, hr1, ⟨hr2, hdst, _, hguard, hon, hoff⟩, hk0, hk1, hk01⟩ := pl.op i _ hio
    generalize hD : (fun j => listed.getD j false) = D at H hr hmono
    have hDi : D i = false := by rw [← hD]; exact hif
    have hclos : ∀ (x : Nat) (o : Oper), ops[x]? = some o → (D x = true ∨ x = i) → ∀ e ∈ bound o, D e.on = true := by
      intro x o ho hx e he
      rw [← hD] at hx ⊢
      rcases hx with hx | rfl
      · exact hd x o ho hx e he
      · exact hie o ho e he
    have hpair : ∀ (j : Nat) (rj : Rec), tr[j]? = some rj → ∀ b, b ∈ keysOf rj.d → b ∈ r.tc → D j = decide (j < i) ∨ (r.pt.isSome = true ∧ ¬ b ∈ keysOf r.d) := by
      intro j rj hj b hb hbt
      by_cases e : i = j
      · subst e; rw [hDi]; simp
      · rcases pl.heap i j r rj b D hr1 hj hb hbt e hDi hclos with ⟨h1, h2⟩ | ⟨h1, h2⟩ | h2
        · rw [h2]; simp [h1]
        · rw [h2]; left; symm; simp; omega
        · exact .inr h2
    have henvs : ∀ t ∈ opTmps ops ops[i], look (app D 0 tr s).env t = look (app (fun j => decide (j < i)) 0 tr s).env t := fun t ht => app_env _ _ t tr 0 s s rfl fun j rj hj hjt => by
      rw [Nat.zero_add]
      by_cases e : i = j
      · subst e; rw [hDi]; simp
      · rcases pl.data i j r rj t D hr1 hj hjt (by rw [hr2]; exact ht) e hDi hclos with ⟨h1, h2⟩ | ⟨h1, h2⟩
        · rw [h2]; simp [h1]
        · rw [h2]; symm; simp; omega
    have hevs := ev_same henvs
    have hwant : Region.wanted ops[i] (yielded ops a.tmps) = r.on := wanted_of (by rw [guard_same henvs]; exact hguard) hr
    have hagree : r.pt = none → ∀ b, b ∈ r.tc → lookB (app D 0 tr s).h b = lookB (app (fun j => decide (j < i)) 0 tr s).h b := by
      intro hpt b hb
      refine app_h _ _ b tr 0 s s rfl fun j rj hj hjb => ?_
      rw [Nat.zero_add]
      rcases hpair j rj hj b hjb hb with h | h
      · exact h
      · rw [hpt] at h; exact Bool.noConfusion h.1
    -- the operation sees what it saw in the text's order
    have hsame : r.on = true → IsR P φ ih (app D 0 tr s) r.k0 ops[i] r.v r.d r.k1 := by
      intro ho
      obtain ⟨htc, hpt, v0, his, href⟩ := hon ho
      cases hp : r.pt with
      | none =>
        refine ⟨v0, is_same hevs (fun b hb => hagree hp b (by rw [htc]; exact hb)) his, href.imp id fun h => ⟨?_, h.2⟩⟩
        have h1 := h.1
        unfold placeOf at h1 ⊢
        split
        · rename_i t x hop
          rw [hop] at h1
          dsimp only at h1
          rw [hevs x (by rw [hop]; simp [Op.operands])]
          exact h1
        · rfl
      | some q =>
        obtain ⟨t, b, off⟩ := q
        have e0 : r.v = v0 := href.resolve_right fun h => by rw [← hpt, hp] at h; exact absurd h.1 (by simp)
        rw [← e0] at his
        refine ⟨r.v, ?_, .inl rfl⟩
        rcases pl.load i r t b off D hr1 hp hDi hclos with h | h
        · rw [hp] at hpt
          unfold placeOf at hpt
          split at hpt
          · rename_i t' x hop
            split at hpt
            · rename_i j' o' hev
              simp only [Option.some.injEq, Prod.mk.injEq] at hpt
              obtain ⟨rfl, rfl, rfl⟩ := hpt
              have hev2 : ev (app D 0 tr s) x = .p b off := by rw [hevs x (by rw [hop]; simp [Op.operands])]; exact hev
              unfold Is at his ⊢
              rw [hop] at his ⊢
              simp only [valueCall] at his ⊢
              obtain ⟨p, hst, hp2, hk2⟩ := his
              refine ⟨none, ?_, (fun q hq => by cases hq), hk2⟩
              have hd : r.d = [] := by
                simp only [step, hop, hev, Option.bind_eq_some_iff] at hst
                obtain ⟨b1, _, hst⟩ := hst
                replace hst := (bif_some' hst).2
                simp only [Option.bind_eq_some_iff, Option.some.injEq, Prod.mk.injEq] at hst
                obtain ⟨_, _, _, h2, _⟩ := hst
                exact h2.symm
              rw [hd]
              unfold loadB at h
              obtain ⟨b1, hb1, h⟩ := Option.bind_eq_some_iff.1 h
              obtain ⟨hf, h⟩ := bif_some' h
              simp only [step, hop, hev2, hb1, Option.bind_some, hf, cond_true, h]
            · cases hpt
          · cases hpt
        · refine is_same hevs (fun c hc => app_h _ _ c tr 0 s s rfl fun j rj hj hjb => ?_) his
          rw [Nat.zero_add]
          refine h j rj hj ?_
          rw [hp] at hpt
          unfold placeOf at hpt
          split at hpt
          · rename_i t' x hop
            split at hpt
            · rename_i j' o' hev
              simp only [Option.some.injEq, Prod.mk.injEq] at hpt
              obtain ⟨rfl, rfl, rfl⟩ := hpt
              simp only [tch, hop, hev, refs, List.mem_singleton] at hc
              subst hc
              exact hjb
            · cases hpt
          · cases hpt
    have hkeys : ∀ j, has (app D 0 tr s).h j → ¬ (r.k0 ≤ j ∧ j < r.k1) := by
      intro j hj hrange
      have := keys_app D j hj fun j' hj' r' hr' hb => by
        have hne : i ≠ j' := by rintro rfl; rw [hDi] at hj'; cases hj'
        have h1 := (pl.new i j' r r' j hr1 hr' hb hne hrange).2 D (fun x o ho hx => hclos x o ho (.inl hx)) hj'
        rw [hDi] at h1
        cases h1
      have := hk j this
      omega
    have cont : ∀ β' w' x, HR F₀ w0 β' (r.d ++ (app D 0 tr s).h) w' → (∀ j, has (app D 0 tr s).h j → β' j = β j) → (r.v ≠ .u → x = den β' r.v) → (∀ j, j ∈ refs r.v → has (r.d ++ (app D 0 tr s).h) j) →
        wpAny P .any ops Q fuel (listed.setIfInBounds i true) (a.put ops[i].dst x) w' := ?cont
    · unfold wpOp
      rw [hio]
      dsimp only
      rw [hwant]
      cases ho : r.on with
      | true => rw [if_pos rfl]; exact .inl (isR_ok hφ hs hrom (hsame ho) hkeys H hr _ Q cont)
      | false =>
        rw [if_neg (by simp)]
        obtain ⟨o1, o2, _⟩ := hoff ho
        exact cont β w undef (by rw [o2]; exact H) (fun _ _ => rfl) (fun _ => by rw [o1]; rfl) (by rw [o1]; simp [refs])
    intro β' w' x H' hext hx hrefs
    -- the state behind it
    have hset : ∀ j, (listed.setIfInBounds i true).getD j false = if j = i then true else D j := by
      intro j
      rw [← hD]
      simp only [Array.getD_eq_getD_getElem?, Array.getElem?_setIfInBounds]
      by_cases e : j = i
      · subst e; simp [hsz, hilt]
      · rw [if_neg (fun e2 => e e2.symm), if_neg e]
    have hfun : (fun j => (listed.setIfInBounds i true).getD j false) = fun j => if j = i then true else D j := funext hset
    have henv : ∀ t, look (app (fun j => if j = i then true else D j) 0 tr s).env t = look (X.after (app D 0 tr s) r).env t := by
      intro t
      rw [look_after]
      by_cases e : r.o.dst = some t
      · rw [if_pos e]
        exact app_env_last _ t tr 0 s i r hr1 e (by simp) fun j' r' hj' ht' => (pl.dst j' i r' r t hj' hr1 ht' e)
      · rw [if_neg e]
        refine app_env _ _ t tr 0 s s rfl fun j rj hj hjt => ?_
        rw [Nat.zero_add]
        have : ¬ j = i := by rintro rfl; rw [hr1] at hj; injection hj with hj; subst hj; exact e hjt
        simp [this]
    have hheap : ∀ b, lookB (app (fun j => if j = i then true else D j) 0 tr s).h b = lookB (X.after (app D 0 tr s) r).h b := by
      intro b
      rw [h_after, lookB_append]
      by_cases e : b ∈ keysOf r.d
      · rw [if_pos e]
        refine app_h_last _ b tr 0 s i r hr1 e (by simp) fun j' r' hj' hb' hlt => ?_
        rw [Nat.zero_add]
        have hne : ¬ j' = i := by omega
        rw [if_neg hne]
        rcases pl.keys j' r' b hj' hb' with h1 | h1
        · -- i writes what j' touches
          cases hDj : D j' with
          | false => rfl
          | true =>
            exfalso
            rcases pl.keys i r b hr1 e with h2 | h2
            · rcases hpair j' r' hj' b hb' h2 with this | this
              · rw [hDj] at this
                simp at this
                omega
              · exact this.2 e
            · have h3 := (pl.new i j' r r' b hr1 hj' hb' (by omega) h2).2 D (fun x o ho hx => hclos x o ho (.inl hx)) hDj
              rw [hDi] at h3
              cases h3
        · have h3 := (pl.new j' i r' r b hj' hr1 e hne h1).1
          omega
      · rw [if_neg e]
        refine app_h _ _ b tr 0 s s rfl fun j rj hj hjb => ?_
        rw [Nat.zero_add]
        have : ¬ j = i := by rintro rfl; rw [hr1] at hj; injection hj with hj; subst hj; exact e hjb
        simp [this]
    have hmono' : ∀ j, has (app D 0 tr s).h j → has (r.d ++ (app D 0 tr s).h) j := by
      rintro j ⟨b, hj⟩
      by_cases e : j ∈ keysOf r.d
      · have hl : ∀ d : Hp, j ∈ keysOf d → ∃ b, lookB d j = some b := by
          intro d
          induction d with
          | nil => intro h; simp [keysOf] at h
          | cons x d ih =>
            obtain ⟨kx, cx⟩ := x
            intro h
            rw [lookB_cons]
            by_cases e : j = kx
            · exact ⟨cx, if_pos e⟩
            · rw [if_neg e]
              simp only [keysOf, List.map_cons, List.mem_cons] at h
              exact ih (h.resolve_left e)
        obtain ⟨c, hc⟩ := hl r.d e
        exact ⟨c, by rw [lookB_append, if_pos e]; exact hc⟩
      · exact ⟨b, by rw [lookB_append, if_neg e]; exact hj⟩
    have hre : RE β' (X.after (app D 0 tr s) r) (a.put ops[i].dst x) := by
      have hfr : ∀ j, has (r.d ++ (app D 0 tr s).h) j → j < (app D 0 tr s).nx := by
        rintro j ⟨b, hj⟩
        rw [lookB_append] at hj
        by_cases e : j ∈ keysOf r.d
        · rcases pl.keys i r j hr1 e with h1 | h1
          · -- a block that it touches was there
            have ho : r.on = true := by
              cases ho : r.on with
              | true => rfl
              | false => rw [(hoff ho).2.2.1] at h1; cases h1
            obtain ⟨htce, hpte, _⟩ := hon ho
            have : has (app D 0 tr s).h j := by
              have one : ∀ x, x ∈ ops[i].op.operands → j ∈ refs (ev (app (fun j => decide (j < i)) 0 tr s) x) → has (app D 0 tr s).h j := fun x hx hjx => ev_refs hr x j (by rw [hevs x hx]; exact hjx)
              have h1' := h1
              rw [htce] at h1'
              unfold tch at h1'
              split at h1'
              · rename_i x ho; exact one _ (by rw [ho]; simp [Op.operands]) h1'
              · rename_i x y ho; exact one _ (by rw [ho]; simp [Op.operands]) h1'
              · rename_i x ho; exact one _ (by rw [ho]; simp [Op.operands]) h1'
              · rename_i x _ _ _ ho; exact one _ (by rw [ho]; simp [Op.operands]) h1'
              · rename_i x _ _ ho; exact one _ (by rw [ho]; simp [Op.operands]) h1'
              · rename_i x _ _ ho; exact one _ (by rw [ho]; simp [Op.operands]) h1'
              · rename_i x _ ho; exact one _ (by rw [ho]; simp [Op.operands]) h1'
              · rename_i c ho
                split at h1'
                · obtain ⟨v, hv, hj⟩ := mem_refsL.1 h1'
                  obtain ⟨y, hy, rfl⟩ := List.mem_map.1 hv
                  exact one y (by rw [ho]; simp only [Op.operands, Call.operands, Array.mem_append]; exact .inr (by simpa using hy)) hj
                · split at h1'
                  · split at h1'
                    · rename_i h0 hres
                      have hpn : r.pt = none := by rw [hpte]; unfold placeOf; rw [ho]
                      obtain ⟨hsub, _, _⟩ := restr_ok _ _ _ _ _ hres (by intro j b hj; simp [lookB] at hj) (by intro j b hj; simp [lookB] at hj)
                      obtain ⟨c, hc⟩ := (has_iff _ _).2 h1'
                      exact ⟨c, by rw [hagree hpn j h1]; exact hsub j c hc⟩
                    · cases h1'
                  · cases h1'
                · cases h1'
              · cases h1'
            exact hr.fresh j this
          · rw [(app_n D tr 0 s).2]
            omega
        · rw [if_neg e] at hj; exact hr.fresh j ⟨b, hj⟩
      have h1 := (hr.mono (r.d ++ (app D 0 tr s).h) (app D 0 tr s).nx hext hmono' hfr).lay (d := ops[i].dst) (x := r.v) (v := x) (by
        cases hdd : ops[i].dst with
        | none => rfl
        | some t => rw [hdd] at hdst; unfold dstOk at hdst ⊢; dsimp only at hdst ⊢; rw [(app_n _ tr 0 s).1] at hdst; rw [(app_n D tr 0 s).1]; exact hdst) hx hrefs
      rw [← hr2] at h1 ⊢
      exact h1
    refine ihf (listed.setIfInBounds i true) _ w' β' (by simpa using hsz) ?_ ?_ ?_ ?_ (fun j hj => (hext j (hmono j hj)).trans (hβ j hj)) ?_
    · have := countP_set listed.toList i (by
        have h2 := hif
        rw [Array.getD_eq_getD_getElem?, Array.getElem?_eq_getElem (by omega)] at h2
        simp only [Option.getD_some] at h2
        simp [h2, hsz, hilt])
      rw [Array.toList_setIfInBounds]
      omega
    · intro x o ho hx e he
      rw [hset] at hx ⊢
      by_cases ex : e.on = i
      · rw [if_pos ex]
      · rw [if_neg ex]
        by_cases exi : x = i
        · exact hclos x o ho (.inr exi) e he
        · rw [if_neg exi] at hx; exact hclos x o ho (.inl hx) e he
    · rw [hfun]
      exact H'.congr fun b => by rw [hheap, h_after]
    · rw [hfun]
      exact hre.congr henv hheap (by rw [(app_n _ tr 0 s).1, n_after, (app_n _ tr 0 s).1]) (by rw [(app_n _ tr 0 s).2, nx_after, (app_n _ tr 0 s).2])
    · intro j hj
      rw [hfun]
      obtain ⟨b, hb⟩ := hmono' j (hmono j hj)
      exact ⟨b, by rw [hheap, h_after]; exact hb⟩
end
end Go.Proofs.YtfjldllegmfooaaDoor.X
end

section
/- What the reader finds is what the machine does: joined ways, and the theorem. No condition. -/
namespace Go.Proofs.YtfjldllegmfooaaDoor.X
open Go.RowKit

section
variable {P : Program} {φ : Specs} {F₀ : Nat → Prop} {w0 : World}

theorem mergeE_look {q : Bool} : ∀ (k : Nat) (l l' e : List (Nat × V)), mergeE q k l l' = some e → ∀ t,
    (look e t = mergeB q (look l t) (look l' t)) ∨ (look e t = look (l.drop k) t ∧ look l t = look (l.drop k) t ∧ look l' t = look (l'.drop k) t) := by
  intro k
  induction k with
  | zero => intro l l' e h t; simp only [mergeE, Option.some.injEq] at h; subst h; exact .inr ⟨rfl, rfl, rfl⟩
  | succ k ih =>
    intro l l' e h t
    cases l with
    | nil => simp [mergeE] at h
    | cons b l =>
      cases l' with
      | nil => simp [mergeE] at h
      | cons b' l' =>
        obtain ⟨t1, x⟩ := b
        obtain ⟨t2, y⟩ := b'
        simp only [mergeE] at h
        cases hb : Nat.beq t1 t2 with
        | false => rw [hb] at h; cases h
        | true =>
          have hk := Nat.eq_of_beq_eq_true hb
          subst hk
          rw [hb] at h
          simp only [cond_true, Option.bind_eq_some_iff, Option.some.injEq] at h
          obtain ⟨r, hr, rfl⟩ := h
          simp only [look, List.drop_succ_cons]
          cases Nat.beq t1 t with
          | true => exact .inl rfl
          | false => exact ih l l' r hr t

theorem HR.sub {β : Nat → Nat} {h0 h : Hp} {w : World} (H : HR F₀ w0 β h w) (hs : ∀ j b, lookB h0 j = some b → lookB h j = some b) (hw : ∀ (j : Nat) (b : Blk), lookB h0 j = some b → ∀ i, i ∈ refsL b.cs ∨ i ∈ b.k.refs → has h0 i) : HR F₀ w0 β h0 w :=
  ⟨H.os, H.tape, H.output, H.size, H.keep, fun j b hj => H.blk j b (hs j b hj), fun j b hj => H.own j b (hs j b hj), fun i j b b' hi hj => H.inj i j b b' (hs i b hi) (hs j b' hj), hw⟩

/-- What is known at s' is known at s''. -/
def Imp (F₀ : Nat → Prop) (w0 : World) (s' s'' : St) : Prop := ∀ β a w, HR F₀ w0 β s'.h w → RE β s' a → HR F₀ w0 β s''.h w ∧ RE β s'' a

/-- What the state at a region's head keeps. -/
structure Head (s0 : St) : Prop where
  env : ∀ t j, j ∈ refs (look s0.env t) → has s0.h j
  h : ∀ (j : Nat) (b : Blk), lookB s0.h j = some b → ∀ i, i ∈ refsL b.cs ∨ i ∈ b.k.refs → has s0.h i
  fresh : ∀ j, has s0.h j → j < s0.nx

theorem imp_side {s0 s1 : St} {e : List (Nat × V)} (hw : Head s0) (h1 : Base s0 .normal s1) (hlook : ∀ t, (∃ x : V, (x ≠ .u → ∃ x', val (look s1.env t) = some x' ∧ ∀ β, den β x = x') ∧ look e t = x ∧ refs x = []) ∨ (look e t = look s0.env t ∧ look s1.env t = look s0.env t)) : Imp F₀ w0 s1 ⟨e, s0.n, s0.h, s0.nx⟩ := by
  obtain ⟨_, _, c1, d1, _⟩ := h1
  intro β a w H hr
  refine ⟨H.sub c1 hw.h, hr.defers, by rw [hr.size]; exact d1, fun t ht => ?_, fun t j hj => ?_, hw.fresh⟩
  · dsimp only at ht ⊢
    rcases hlook t with ⟨x, hx, h, _⟩ | ⟨h, h'⟩
    · rw [h] at ht ⊢
      obtain ⟨x', hv, hden⟩ := hx ht
      rw [hden, ← d1]
      obtain ⟨v1, v2⟩ := hr.val t (val_ne hv)
      exact ⟨v1, v2.trans (val_den β _ _ hv)⟩
    · rw [h, ← h'] at ht ⊢
      rw [← d1]
      exact hr.val t ht
  · dsimp only at hj ⊢
    rcases hlook t with ⟨x, _, h, hx⟩ | ⟨h, _⟩
    · rw [h, hx] at hj; cases hj
    · rw [h] at hj; exact hw.env t j hj

theorem imp_merge {s0 s1 s2 : St} {q : Bool} {e : List (Nat × V)} (hw : Head s0)
    (h1 : Base s0 .normal s1) (h2 : Base s0 .normal s2) (hl : s1.env.length = s2.env.length) (he : mergeE q (s1.env.length - s0.env.length) s1.env s2.env = some e) :
    (q = true → Imp F₀ w0 s1 ⟨e, s0.n, s0.h, s0.nx⟩) ∧ (q = false → Imp F₀ w0 s2 ⟨e, s0.n, s0.h, s0.nx⟩) := by
  have hh1 := h1
  have hh2 := h2
  obtain ⟨_, ⟨n1, a1⟩, _⟩ := h1
  obtain ⟨_, ⟨n2, a2⟩, _⟩ := h2
  have hd1 : s1.env.drop (s1.env.length - s0.env.length) = s0.env := by
    rw [a1]; simp
  have hd2 : s2.env.drop (s1.env.length - s0.env.length) = s0.env := by
    rw [hl, a2]; simp
  have hlook := mergeE_look _ _ _ _ he
  rw [hd1, hd2] at hlook
  constructor
  · rintro rfl
    refine imp_side hw hh1 fun t => ?_
    rcases hlook t with h | ⟨h, h', _⟩
    · refine .inl ⟨_, fun hx => ?_, h, mergeB_refs _ _ _⟩
      obtain ⟨x', y', hx, hy, hden⟩ := mergeB_den hx
      exact ⟨x', hx, hden⟩
    · exact .inr ⟨h, h'⟩
  · rintro rfl
    refine imp_side hw hh2 fun t => ?_
    rcases hlook t with h | ⟨h, _, h'⟩
    · refine .inl ⟨_, fun hx => ?_, h, mergeB_refs _ _ _⟩
      obtain ⟨x', y', hx, hy, hden⟩ := mergeB_den hx
      exact ⟨y', hy, hden⟩
    · exact .inr ⟨h, h'⟩

theorem mergeE_suffix {q : Bool} : ∀ (k : Nat) (l l' e : List (Nat × V)), mergeE q k l l' = some e → ∃ ne, e = ne ++ l.drop k := by
  intro k
  induction k with
  | zero => intro l l' e h; simp only [mergeE, Option.some.injEq] at h; subst h; exact ⟨[], rfl⟩
  | succ k ih =>
    intro l l' e h
    cases l with
    | nil => simp [mergeE] at h
    | cons b l =>
      cases l' with
      | nil => simp [mergeE] at h
      | cons b' l' =>
        simp only [mergeE] at h
        replace h := (bif_some' h).2
        simp only [Option.bind_eq_some_iff, Option.some.injEq] at h
        obtain ⟨r, hr, rfl⟩ := h
        obtain ⟨ne, rfl⟩ := ih l l' r hr
        exact ⟨_ :: ne, rfl⟩

def holdsO : Option Prop → Prop
  | none => True
  | some p => p

theorem strip_ok : ∀ (t : T) (p : Option Prop) (t' : T), t.strip = (p, t') → (∀ K, t.sat K ↔ holdsO p ∧ t'.sat K) ∧ ∀ A, t.all A ↔ t'.all A := by
  intro t
  induction t with
  | req q x ih =>
    intro p t' h
    simp only [T.strip] at h
    cases hs : x.strip with
    | mk p1 t1 =>
      obtain ⟨i1, i2⟩ := ih p1 t1 hs
      rw [hs] at h
      cases p1 with
      | none =>
        simp only [Prod.mk.injEq] at h
        obtain ⟨rfl, rfl⟩ := h
        exact ⟨fun K => by simp only [T.sat, i1, holdsO, true_and], fun A => by simp only [T.all, i2]⟩
      | some q1 =>
        simp only [Prod.mk.injEq] at h
        obtain ⟨rfl, rfl⟩ := h
        exact ⟨fun K => by simp only [T.sat, i1, holdsO, and_assoc], fun A => by simp only [T.all, i2]⟩
  | leaf e s => intro p t' h; simp only [T.strip, Prod.mk.injEq] at h; obtain ⟨rfl, rfl⟩ := h; exact ⟨fun K => by simp [holdsO], fun A => Iff.rfl⟩
  | ite b x y _ _ => intro p t' h; simp only [T.strip, Prod.mk.injEq] at h; obtain ⟨rfl, rfl⟩ := h; exact ⟨fun K => by simp [holdsO], fun A => Iff.rfl⟩
  | fail => intro p t' h; simp only [T.strip, Prod.mk.injEq] at h; obtain ⟨rfl, rfl⟩ := h; exact ⟨fun K => by simp [holdsO], fun A => Iff.rfl⟩

theorem both_sat {b : Bool} {p q : Option Prop} {t : T} {K : Ex → St → Prop} (h : (both b p q t).sat K) : (b = true → holdsO p) ∧ (b = false → holdsO q) ∧ t.sat K := by
  cases p <;> cases q <;> simp only [both, T.sat] at h
  · exact ⟨fun _ => trivial, fun _ => trivial, h⟩
  · exact ⟨fun _ => trivial, h.1, h.2⟩
  · exact ⟨h.1, fun _ => trivial, h.2⟩
  · exact ⟨h.1.1, h.1.2, h.2⟩
theorem both_all {b : Bool} {p q : Option Prop} {t : T} {A : Ex → St → Prop} (h : t.all A) : (both b p q t).all A := by
  cases p <;> cases q <;> exact h

theorem merge_ok {s0 : St} (hw : Head s0) : ∀ t : T, t.all (Base s0) →
    (t.merge s0).all (Base s0) ∧ ∀ K, (t.merge s0).sat K → t.sat fun e s' => ∃ s'', K e s'' ∧ Base s0 e s'' ∧ Imp F₀ w0 s' s'' := by
  intro t
  induction t with
  | leaf e s => intro h; exact ⟨h, fun K hK => ⟨s, hK, h, fun β a w H hr => ⟨H, hr⟩⟩⟩
  | fail => intro h; exact ⟨trivial, fun K hK => hK⟩
  | req p x ih =>
    intro h
    obtain ⟨a1, k1⟩ := ih h
    exact ⟨a1, fun K hK => ⟨hK.1, k1 K hK.2⟩⟩
  | ite b x y ih1 ih2 =>
    intro h
    obtain ⟨a1, k1⟩ := ih1 h.1
    obtain ⟨a2, k2⟩ := ih2 h.2
    have plain : ∀ t', t' = T.ite b (x.merge s0) (y.merge s0) → t'.all (Base s0) ∧ ∀ K, t'.sat K → (T.ite b x y).sat fun e s' => ∃ s'', K e s'' ∧ Base s0 e s'' ∧ Imp F₀ w0 s' s'' := by
      rintro t' rfl
      exact ⟨⟨a1, a2⟩, fun K hK => ⟨fun hb => k1 K (hK.1 hb), fun hb => k2 K (hK.2 hb)⟩⟩
    simp only [T.merge]
    split
    · rename_i p s1 q s2 hx hy
      cases hl : Nat.beq s1.env.length s2.env.length with
      | false => simp only [cond_false]; exact plain _ rfl
      | true =>
        simp only [cond_true]
        split
        · rename_i e he
          obtain ⟨x1, x2⟩ := strip_ok _ _ _ hx
          obtain ⟨y1, y2⟩ := strip_ok _ _ _ hy
          have b1 : Base s0 .normal s1 := (x2 _).1 a1
          have b2 : Base s0 .normal s2 := (y2 _).1 a2
          obtain ⟨i1, i2⟩ := imp_merge (F₀ := F₀) (w0 := w0) hw b1 b2 (Nat.eq_of_beq_eq_true hl) he
          have hbase : Base s0 .normal ⟨e, s0.n, s0.h, s0.nx⟩ := by
            obtain ⟨ne, hne⟩ := mergeE_suffix _ _ _ _ he
            obtain ⟨_, ⟨n1, q1⟩, _⟩ := b1
            refine ⟨rfl, ⟨ne, ?_⟩, fun _ _ h => h, rfl, Nat.le_refl _⟩
            rw [hne]
            congr 1
            rw [q1]; simp
          refine ⟨both_all hbase, fun K hK => ?_⟩
          obtain ⟨hp, hq, hK⟩ := both_sat hK
          refine ⟨fun hb => ?_, fun hb => ?_⟩
          · refine T.sat_mono (k1 (fun e s' => e = .normal ∧ s' = s1) ((x1 _).2 ⟨hp hb, rfl, rfl⟩)) ?_
            rintro e' s' ⟨s'', ⟨rfl, rfl⟩, _, himp⟩
            exact ⟨_, hK, hbase, fun β a w H hr => let ⟨H1, r1⟩ := himp β a w H hr; i1 hb β a w H1 r1⟩
          · refine T.sat_mono (k2 (fun e s' => e = .normal ∧ s' = s2) ((y1 _).2 ⟨hq hb, rfl, rfl⟩)) ?_
            rintro e' s' ⟨s'', ⟨rfl, rfl⟩, _, himp⟩
            exact ⟨_, hK, hbase, fun β a w H hr => let ⟨H1, r1⟩ := himp β a w H hr; i2 hb β a w H1 r1⟩
        · exact plain _ rfl
    · exact plain _ rfl

theorem setN_RE {β : Nat → Nat} {s : St} {a : Act} (hr : RE β s a) {m tg : Nat} {x : V} {e : List (Nat × V)} (he : setN m s.env tg x = some e) (hne : look s.env tg ≠ .u) (hd : den β x = den β (look s.env tg)) (hb : refs x = []) :
    RE β ⟨e, s.n, s.h, s.nx⟩ a := by
  have hl := setN_look _ _ he
  refine ⟨hr.defers, hr.size, fun t ht => ?_, fun t j hj => ?_, hr.fresh⟩
  · dsimp only at ht ⊢
    rw [hl] at ht ⊢
    by_cases e1 : t = tg
    · subst e1
      rw [if_pos rfl, hd]
      exact hr.val t hne
    · rw [if_neg e1] at ht ⊢
      exact hr.val t ht
  · dsimp only at hj
    rw [hl] at hj
    by_cases e1 : t = tg
    · rw [if_pos e1, hb] at hj; cases hj
    · rw [if_neg e1] at hj; exact hr.wf t j hj

theorem ops_ok (hφ : Good P φ) {n : Nat} (hs : Sd P F₀ w0 n (X P φ n)) (hrom : RomOk φ.rom F₀ w0) (l : List Oper) (all : Array Oper) (m : Nat) (s : St) (K : Ex → St → Prop) (h : (F P φ (X P φ n) (.ops l all m) s).sat K)
    (β : Nat → Nat) (a : Act) (w : World) (Q : Exit → Act → World → Prop) (H : HR F₀ w0 β s.h w) (hr : RE β s a)
    (hQ : ∀ e s' β' a' w', K e s' → At F₀ w0 β s s' β' a' w' → Q (ex e) a' w') : wpList P all Q l a w := by
  cases l with
  | nil => exact hQ .normal s β a w h ⟨H, hr, fun _ _ => rfl, fun _ h => h, rfl⟩
  | cons o rest =>
    have exec : (oper P φ (X P φ n) o s fun s' => X P φ n (.ops rest all m) s').sat K → o.wp P a w (wpList P all Q rest) Q := fun hop =>
      oper_ok hφ hs hrom hop H hr _ Q fun s' β' a' w' hk hat => hs (.ops rest all m) s' K trivial hk β' a' w' Q hat.hr hat.re fun e s'' β'' a'' w'' hK hat' => hQ e s'' β'' a'' w'' hK (hat.trans hat')
    have skip : ∀ (_ : dstOk s o.dst = true), (X P φ n (.ops rest all m) (X.put s o.dst (.c undef))).sat K → wpList P all Q rest (a.put o.dst undef) w := fun hd hk => by
      have hat : At F₀ w0 β s (X.put s o.dst (.c undef)) β (a.put o.dst undef) w := by
        refine ⟨?_, hr.lay hd (fun _ => rfl) (by simp [refs]), fun _ _ => rfl, ?_, ?_⟩
        · cases o.dst <;> exact H
        · cases o.dst <;> exact fun _ h => h
        · cases o.dst <;> rfl
      exact hs (.ops rest all m) _ K trivial hk β _ w Q hat.hr hat.re fun e s'' β'' a'' w'' hK hat' => hQ e s'' β'' a'' w'' hK (hat.trans hat')
    unfold F at h
    dsimp only at h
    split at h
    · rename_i hg
      unfold wpList
      rw [if_pos (by simp [Region.wanted, hg])]
      exact .inl (exec h)
    · rename_i j want hg
      split at h
      · exact h.elim
      · rename_i tg htg
        split at h
        · rename_i q hq
          obtain ⟨v1, v2⟩ := hr.val tg (by rw [hq]; simp)
          rw [hq] at v2
          have hy := yielded_of htg (by rw [hr.size]; exact v1) v2
          simp only [den, yes] at hy
          have hwant : Region.wanted o (yielded all a.tmps) = (q == want) := by
            simp only [Region.wanted, hg, hy]
            cases q <;> cases want <;> rfl
          split at h
          · rename_i he
            unfold wpList
            rw [hwant, he, if_pos rfl]
            exact .inl (exec h)
          · rename_i he
            unfold wpList
            rw [hwant, he, if_neg (by simp)]
            cases hd : dstOk s o.dst with
            | false => rw [hd] at h; exact h.elim
            | true => rw [hd] at h; exact skip hd h
        · rename_i xs hq
          obtain ⟨v1, v2⟩ := hr.val tg (by rw [hq]; simp)
          rw [hq] at v2
          have hy := yielded_of htg (by rw [hr.size]; exact v1) v2
          simp only [den, yes] at hy
          have hwant : Region.wanted o (yielded all a.tmps) = false := by
            simp only [Region.wanted, hg, hy]
            cases want <;> rfl
          unfold wpList
          rw [hwant, if_neg (by simp)]
          cases hd : dstOk s o.dst with
          | false => rw [hd] at h; exact h.elim
          | true => rw [hd] at h; exact skip hd h
        · rename_i q hq
          split at h
          · rename_i e1 e2 he1 he2
            cases q with
            | true =>
              have hre := setN_RE hr he1 (by rw [hq]; simp) (by rw [hq]; rfl) rfl
              exact hs (.ops (o :: rest) all m) _ K trivial (h.1 rfl) β a w Q H hre fun e s' β' a' w' hK hat => hQ e s' β' a' w' hK ⟨hat.hr, hat.re, hat.ext, hat.mono, hat.n⟩
            | false =>
              have hre := setN_RE hr he2 (by rw [hq]; simp) (by rw [hq]; rfl) rfl
              exact hs (.ops (o :: rest) all m) _ K trivial (h.2 rfl) β a w Q H hre fun e s' β' a' w' hK hat => hQ e s' β' a' w' hK ⟨hat.hr, hat.re, hat.ext, hat.mono, hat.n⟩
          · exact h.elim
        · exact h.elim
end
end Go.Proofs.YtfjldllegmfooaaDoor.X
end

section
/- What the reader keeps: the old entries of the slots and of memory lie behind the new ones. No condition. -/
namespace Go.Proofs.YtfjldllegmfooaaDoor.X
open Go.RowKit

section
variable {P : Program} {φ : Specs}

def mOf : Task → St → Nat
  | .code _, s => s.env.length
  | .fold _ _, s => s.env.length
  | .rounds _, s => s.env.length
  | .ops _ _ m, _ => m

/-- The reader keeps. -/
def Kp (P : Program) (ih : Task → St → T) : Prop := ∀ task s, InP P task → mOf task s ≤ s.env.length → (ih task s).all fun _ s' => Keeps (mOf task s) s s'

theorem callT_all (hφ : Good P φ) {ih : Task → St → T} (hi : Kp P ih) {g : FuncId} {fn : Func} {c : Code} (hf : P.funcs[g]? = some fn) (hb : fn.body = some c) (as : List V) (h : Hp) (nx : Nat) :
    (callT P φ ih g fn c as h nx).all fun _ s' => (∃ d, s'.h = d ++ h) ∧ nx ≤ s'.nx := by
  unfold callT
  split
  · rename_i r hr
    split
    · rename_i t ht; exact (hφ.cs g r hr as h nx t ht).1
    · trivial
  · refine T.all_bind (hi (.fold c (needOf fn)) _ (inP_body hf hb _) (Nat.le_refl _)) fun e s' hs => ?_
    cases e with
    | exit i => trivial
    | normal =>
      dsimp only
      split
      · exact ⟨hs.h, hs.nx⟩
      · trivial
    | ret =>
      dsimp only
      split
      · exact ⟨hs.h, hs.nx⟩
      · trivial

theorem oper_keeps (hφ : Good P φ) {ih : Task → St → T} (hi : Kp P ih) {o : Oper} {s : St} {k : St → T} {m : Nat} (hm : m ≤ s.env.length) {A : Ex → St → Prop} (hk : ∀ s', Keeps m s s' → (k s').all A) : (oper P φ ih o s k).all A := by
  unfold oper
  cases dstOk s o.dst with
  | false => trivial
  | true =>
  simp only [cond_true]
  split
  · rename_i x args _
    split
    · trivial
    · rename_i g xs ys _
      cases (xs ++ evL s args.toList ++ ys).all notU with
      | false => trivial
      | true =>
      simp only [cond_true]
      split
      · trivial
      · rename_i fn hf
        cases (fn.name == "runtime.NumGoroutine") with
        | true => trivial
        | false =>
        simp only [cond_false]
        split
        · trivial
        · rename_i c hb
          split
          · split
            · split
              · exact hk _ (Keeps.put _ _)
              · trivial
            · trivial
          · refine T.all_bind (callT_all hφ hi hf hb _ _ _) fun e s' hs => ?_
            exact hk _ (Keeps.trans (s' := ⟨s.env, s.n, s'.h, s'.nx⟩) ⟨⟨s.env.take (s.env.length - m), (List.take_append_drop _ _).symm⟩, hs.1, hs.2, rfl⟩ (Keeps.put _ _) hm)
  · split
    · rename_i v d p _
      have := hk (X.put (X.lay s d) o.dst v) ((Keeps.lay d).trans (Keeps.put _ _) hm)
      cases p with
      | none => exact this
      | some q => exact this
    · trivial

theorem oneT_all {ih : Task → St → T} {s : St} {k : Nat} {o : Oper} {K : V → Hp → Nat → T} {A : Ex → St → Prop} (h : ∀ v d k1, (K v d k1).all A) : (oneT P φ ih s k o K).all A := by
  unfold oneT
  split
  · split
    · rename_i v d p _
      cases p with
      | none => exact h _ _ _
      | some q => exact h _ _ _
    · trivial
  · rename_i x args _
    split
    · trivial
    · rename_i g xs ys _
      cases (xs ++ evL s args.toList ++ ys).all notU with
      | false => trivial
      | true =>
      simp only [cond_true]
      split
      · trivial
      · rename_i fn _
        cases (fn.name == "runtime.NumGoroutine") with
        | true => trivial
        | false =>
        simp only [cond_false]
        split
        · trivial
        · split
          · split
            · split
              · exact h _ _ _
              · trivial
            · trivial
          · split
            · trivial
            · rename_i h0 _
              cases ((keysOf h0).all fun j => Nat.blt j k) with
              | false => trivial
              | true =>
              simp only [cond_true]
              refine T.all_bind (T.all_any _) fun e s1 _ => ?_
              cases (Nat.ble k s1.nx && (keysOf s1.h).all fun j => (keysOf h0).any (Nat.beq j) || (Nat.ble k j && Nat.blt j s1.nx)) with
              | false => trivial
              | true => exact h _ _ _

theorem splitG_all {g : Bool} {v : V} {K : V → T} {A : Ex → St → Prop} (h : ∀ v, (K v).all A) : (splitG g v K).all A := by
  unfold splitG
  split
  · cases g with
    | false => exact h _
    | true => exact ⟨h _, h _⟩
  · exact h _
theorem trace_all {ih : Task → St → T} {all : Array Oper} {A : Ex → St → Prop} : ∀ (l : List Oper) (k : Nat) (s : St) (K : List Rec → Nat → T), (∀ tr k', (K tr k').all A) → (traceT P φ ih all k l s K).all A
  | [], k, s, K, h => h [] k
  | o :: l, k, s, K, h => by
    simp only [traceT]
    cases dstOk s o.dst with
    | false => trivial
    | true =>
    simp only [cond_true]
    split
    · trivial
    · exact trace_all l _ _ _ fun tr k' => h _ _
    · exact oneT_all fun v d k1 => splitG_all fun v => trace_all l _ _ _ fun tr k' => h _ _

theorem mayBe_all {t : TypeId} {o : Nat} {v : V} {b : Option Blk} {rest : T} {A : Ex → St → Prop} (h : rest.all A) : (mayBe P t o v b rest).all A := by
  unfold mayBe
  split
  · trivial
  · rename_i x _
    cases eqV x v <;> exact h

theorem alts_all {t : TypeId} {b o : Nat} {v : V} {i mi : Nat} {ms : List Nat} {rest : T} {A : Ex → St → Prop} (h : rest.all A) : ∀ l : List (Rec × Nat), (alts P t b o v i mi ms rest l).all A
  | [] => h
  | (rj, j) :: l => by
    simp only [alts]
    cases ((keysOf rj.d).any (Nat.beq b) && !(behind j i (ms.getD j 0)) && !(Nat.beq i j)) with
    | true => exact mayBe_all (alts_all h l)
    | false => exact alts_all h l

theorem loads_all {s : St} {tr0 : List (Rec × Nat)} {ms : List Nat} {rest : T} {A : Ex → St → Prop} (h : rest.all A) : ∀ l : List (Rec × Nat), (loads P s tr0 ms rest l).all A
  | [] => h
  | (ri, i) :: l => by
    simp only [loads]
    split
    · exact loads_all h l
    · rename_i t b o _
      cases open_ b i (ms.getD i 0) ms tr0 with
      | true => exact mayBe_all (alts_all (loads_all h l) _)
      | false => exact loads_all h l

theorem app_keeps (D : Nat → Bool) (m : Nat) : ∀ (tr : List Rec) (i : Nat) (s : St), m ≤ s.env.length → Keeps m s (app D i tr s)
  | [], _, s, _ => Keeps.refl m s
  | r :: tr, i, s, hm => by
    simp only [app]
    have h1 : Keeps m s (bif D i then X.after s r else s) := by
      cases D i with
      | false => exact Keeps.refl m s
      | true =>
        refine Keeps.trans (s' := { s with h := r.d ++ s.h }) ⟨⟨s.env.take (s.env.length - m), (List.take_append_drop _ _).symm⟩, ⟨r.d, rfl⟩, Nat.le_refl _, rfl⟩ (Keeps.put _ _) hm
    exact h1.trans (app_keeps D m tr (i + 1) _ (h1.len hm)) hm

theorem drawn_keeps {ih : Task → St → T} {ops : Array Oper} {s : St} : (drawn P φ ih ops s).all fun _ s' => Keeps s.env.length s s' := by
  unfold drawn
  cases P.follows .mixedOrders with
  | false => trivial
  | true =>
  simp only [cond_true]
  split
  · trivial
  · refine trace_all _ _ _ _ fun tr k => ?_
    cases hc : (okAll ops tr _ && Nat.ble s.nx k) with
    | false => trivial
    | true =>
      simp only [cond_true]
      rw [Bool.and_eq_true] at hc
      have hk := Nat.le_of_ble_eq_true hc.2
      refine loads_all ?_ _
      show Keeps s.env.length s (app (fun _ => true) 0 tr { s with nx := k })
      rw [app_nx]
      have := app_keeps (fun _ => true) s.env.length tr 0 s (Nat.le_refl _)
      exact ⟨this.env, this.h, hk, this.n⟩

theorem setN_drop (m : Nat) : ∀ (l : List (Nat × V)) (t : Nat) (y : V) (r : List (Nat × V)), setN m l t y = some r → r.length = l.length ∧ r.drop (l.length - m) = l.drop (l.length - m)
  | [], _, _, _, h => by simp [setN] at h
  | (k, x) :: l, t, y, r, h => by
    simp only [setN] at h
    cases hb : Nat.ble (l.length + 1) m with
    | true => rw [hb] at h; cases h
    | false =>
      rw [hb] at h
      simp only [cond_false] at h
      have hlt : m < l.length + 1 := by
        rcases Nat.lt_or_ge m (l.length + 1) with h2 | h2
        · exact h2
        · rw [Nat.ble_eq_true_of_le h2] at hb; cases hb
      have hs : ((k, x) :: l).length - m = (l.length - m) + 1 := by simp only [List.length_cons]; omega
      cases hk : Nat.beq k t with
      | true =>
        rw [hk] at h
        simp only [cond_true, Option.some.injEq] at h
        subst h
        exact ⟨rfl, by rw [hs, List.drop_succ_cons, List.drop_succ_cons]⟩
      | false =>
        rw [hk] at h
        simp only [cond_false, Option.bind_eq_some_iff, Option.some.injEq] at h
        obtain ⟨r', hr', rfl⟩ := h
        obtain ⟨h1, h2⟩ := setN_drop m l t y r' hr'
        exact ⟨by simp [h1], by rw [hs, List.drop_succ_cons, List.drop_succ_cons, h2]⟩

theorem setN_keeps {m tg : Nat} {s : St} {x : V} {e : List (Nat × V)} (he : setN m s.env tg x = some e) : Keeps m s ⟨e, s.n, s.h, s.nx⟩ := by
  obtain ⟨h1, h2⟩ := setN_drop m s.env tg x e he
  refine ⟨⟨e.take (s.env.length - m), ?_⟩, ⟨[], rfl⟩, Nat.le_refl _, rfl⟩
  rw [← h2, List.take_append_drop]

theorem merge_keeps {s0 : St} : ∀ t : T, (t.all fun _ s' => Keeps s0.env.length s0 s') → (t.merge s0).all fun _ s' => Keeps s0.env.length s0 s'
  | .leaf _ _, h => h
  | .fail, h => h
  | .req p x, h => merge_keeps x h
  | .ite b x y, h => by
    have hx := merge_keeps x h.1
    have hy := merge_keeps y h.2
    have plain : (T.ite b (x.merge s0) (y.merge s0)).all fun _ s' => Keeps s0.env.length s0 s' := ⟨hx, hy⟩
    simp only [T.merge]
    split
    · rename_i p s1 q s2 h1 h2
      cases Nat.beq s1.env.length s2.env.length with
      | false => exact plain
      | true =>
      simp only [cond_true]
      split
      · rename_i e he
        refine both_all ?_
        obtain ⟨_, a1⟩ := strip_ok _ _ _ h1
        have k1 : Keeps s0.env.length s0 s1 := (a1 _).1 hx
        obtain ⟨ne, e1⟩ := k1.env
        obtain ⟨ne', e2⟩ := mergeE_suffix _ _ _ _ he
        refine ⟨⟨ne', ?_⟩, ⟨[], rfl⟩, Nat.le_refl _, rfl⟩
        rw [Nat.sub_self, List.drop_zero] at e1 ⊢
        show e = _
        rw [e2, e1]
        congr 1
        rw [List.length_append, Nat.add_sub_cancel, List.drop_left]
      · exact plain
    · exact plain

theorem joinS_keeps {need : List Nat} {q : Bool} {s0 s1 s2 s' : St} (k1 : Keeps s0.env.length s0 s1) (h : joinS need q s0 s1 s2 = some s') : Keeps s0.env.length s0 s' := by
  unfold joinS at h
  obtain ⟨d, hd, h⟩ := Option.bind_eq_some_iff.1 h
  replace h := (bif_some' h).2
  simp only [Option.some.injEq] at h
  subst h
  exact ⟨⟨_, by rw [Nat.sub_self, List.drop_zero]⟩, ⟨d, rfl⟩, Nat.le_trans k1.nx (Nat.le_max_left _ _), rfl⟩

theorem joinT_keeps {need : List Nat} {s0 : St} {q : Bool} {x y : T} (hx : x.all fun _ s' => Keeps s0.env.length s0 s') (hy : y.all fun _ s' => Keeps s0.env.length s0 s') : (joinT need s0 q x y).all fun _ s' => Keeps s0.env.length s0 s' := by
  unfold joinT
  split
  · rename_i p1 s1 p2 s2 h1 h2
    split
    · rename_i s hs
      exact both_all (joinS_keeps (((strip_ok _ _ _ h1).2 _).1 hx) hs)
    · exact ⟨hx, hy⟩
  · rename_i p1 s1 p2 s2 h1 h2
    split
    · rename_i s hs
      exact both_all (joinS_keeps (((strip_ok _ _ _ h1).2 _).1 hx) hs)
    · exact ⟨hx, hy⟩
  · exact ⟨hx, hy⟩

theorem fold_keeps {need : List Nat} {s0 : St} : ∀ t : T, (t.all fun _ s' => Keeps s0.env.length s0 s') → (t.fold need s0).all fun _ s' => Keeps s0.env.length s0 s'
  | .leaf _ _, h => h
  | .fail, h => h
  | .req _ x, h => fold_keeps x h
  | .ite _ x y, h => joinT_keeps (fold_keeps x h.1) (fold_keeps y h.2)

theorem ops_keeps (hφ : Good P φ) {n : Nat} (hi : Kp P (X P φ n)) (l : List Oper) (all : Array Oper) (m : Nat) (s : St) (hm : m ≤ s.env.length) : (F P φ (X P φ n) (.ops l all m) s).all fun _ s' => Keeps m s s' := by
  cases l with
  | nil => exact Keeps.refl m s
  | cons o rest =>
    have go : ∀ s', Keeps m s s' → (X P φ n (.ops rest all m) s').all fun _ s'' => Keeps m s s'' := fun s' h => T.all_mono (hi (.ops rest all m) s' trivial (h.len hm)) fun _ _ h2 => h.trans h2 hm
    have exec : (oper P φ (X P φ n) o s fun s' => X P φ n (.ops rest all m) s').all fun _ s' => Keeps m s s' := oper_keeps hφ hi hm go
    have skip : (bif dstOk s o.dst then X P φ n (.ops rest all m) (X.put s o.dst (.c undef)) else .fail).all fun _ s' => Keeps m s s' := by
      cases dstOk s o.dst with
      | false => trivial
      | true => exact go _ (Keeps.put _ _)
    unfold F
    dsimp only
    split
    · exact exec
    · split
      · trivial
      · split
        · split
          · exact exec
          · exact skip
        · exact skip
        · split
          · rename_i he1 he2
            have again : ∀ e, Keeps m s ⟨e, s.n, s.h, s.nx⟩ → (X P φ n (.ops (o :: rest) all m) ⟨e, s.n, s.h, s.nx⟩).all fun _ s'' => Keeps m s s'' := fun e h => T.all_mono (hi (.ops (o :: rest) all m) _ trivial (h.len hm)) fun _ _ h2 => h.trans h2 hm
            exact ⟨again _ (setN_keeps he1), again _ (setN_keeps he2)⟩
          · trivial
        · trivial

theorem code_keeps (hφ : Good P φ) {n : Nat} (hi : Kp P (X P φ n)) (c : Code) (s : St) (hP : InP P (.code c)) : (F P φ (X P φ n) (.code c) s).all fun _ s' => Keeps s.env.length s s' := by
  have leaf : ∀ e, (T.leaf e s).all fun _ s' => Keeps s.env.length s s' := fun e => Keeps.refl _ s
  have next : ∀ (c : Code) (s' : St), InP P (.code c) → Keeps s.env.length s s' → (X P φ n (.code c) s').all fun _ s'' => Keeps s.env.length s s'' := fun c s' hp h =>
    T.all_mono (hi (.code c) s' hp (Nat.le_refl _)) fun _ _ h2 => h.trans (h2.less (Nat.le_refl _) (h.len (Nat.le_refl _))) (Nat.le_refl _)
  cases c with
  | skip => exact leaf _
  | label l => exact leaf _
  | exit i => exact leaf _
  | ret => exact leaf _
  | goto => trivial
  | refuse => trivial
  | rangeFunc => trivial
  | scope b => exact hi (.code b) s hP (Nat.le_refl _)
  | loop b =>
    simp only [F]
    split
    · rename_i r hr
      split
      · rename_i t ht
        exact (hφ.ls b r (hP b (by simp [loops])) hr s t ht).1
      · trivial
    · exact hi (.rounds b) s (fun b' hb' => hP b' (by simp [loops, hb'])) (Nat.le_refl _)
  | seq x y =>
    simp only [F]
    have h1 : InP P (.code x) := fun b hb => hP b (by simp [loops, hb])
    have h2 : InP P (.code y) := fun b hb => hP b (by simp [loops, hb])
    refine T.all_bind (hi (.code x) s h1 (Nat.le_refl _)) fun e s' h => ?_
    cases e with
    | normal => exact next y s' h2 h
    | ret => exact h
    | exit i => exact h
  | cond c x y =>
    have h1 : InP P (.code x) := fun b hb => hP b (by simp [loops, hb])
    have h2 : InP P (.code y) := fun b hb => hP b (by simp [loops, hb])
    simp only [F]
    split
    · split
      · exact hi (.code x) s h1 (Nat.le_refl _)
      · exact hi (.code y) s h2 (Nat.le_refl _)
    · exact joinT_keeps (hi (.code x) s h1 (Nat.le_refl _)) (hi (.code y) s h2 (Nat.le_refl _))
    · trivial
  | block id b =>
    simp only [F]
    refine fold_keeps _ (T.all_bind (hi (.code b) s hP (Nat.le_refl _)) fun e s' h => ?_)
    cases e with
    | normal => exact h
    | ret => exact h
    | exit i => dsimp only; cases Nat.beq i id <;> exact h
  | region id ops draw =>
    simp only [F]
    cases draw with
    | true => exact fold_keeps _ drawn_keeps
    | false =>
      simp only [cond_false]
      cases (ops.toList.any (fun o => o.guard.isSome) && ops.toList.all (calm φ)) with
      | false => exact hi (.ops ops.toList ops s.env.length) s trivial (Nat.le_refl _)
      | true => exact merge_keeps _ (hi (.ops ops.toList ops s.env.length) s trivial (Nat.le_refl _))

theorem X_keeps (hφ : Good P φ) : ∀ n, Kp P (X P φ n)
  | 0 => fun _ _ _ _ => trivial
  | n + 1 => by
    have hi := X_keeps hφ n
    intro task s hP hm
    cases task with
    | code c => exact code_keeps hφ hi c s hP
    | fold c need => exact fold_keeps _ (hi (.code c) s hP (Nat.le_refl _))
    | ops l all m => exact ops_keeps hφ hi l all m s hm
    | rounds b =>
      show (F P φ (X P φ n) (.rounds b) s).all fun _ s' => Keeps s.env.length s s'
      simp only [F]
      refine T.all_bind (hi (.code b) s hP (Nat.le_refl _)) fun e s' h => ?_
      cases e with
      | normal => exact T.all_mono (hi (.rounds b) s' hP (Nat.le_refl _)) fun _ _ h2 => h.trans (h2.less (Nat.le_refl _) (h.len (Nat.le_refl _))) (Nat.le_refl _)
      | ret => exact h
      | exit i => exact h
end
end Go.Proofs.YtfjldllegmfooaaDoor.X
end

section
/- Two ways joined: values, memory, states. No condition. -/
namespace Go.Proofs.YtfjldllegmfooaaDoor.X
open Go.RowKit

theorem uniqN_mem : ∀ (l acc : List Nat) (j : Nat), j ∈ uniqN l acc ↔ j ∈ l ∨ j ∈ acc
  | [], acc, j => by simp [uniqN]
  | i :: l, acc, j => by
    simp only [uniqN]
    cases hb : acc.any (Nat.beq i) with
    | true =>
      obtain ⟨x, hx, e⟩ := List.any_eq_true.1 hb
      have e := Nat.eq_of_beq_eq_true e
      subst e
      simp only [cond_true]
      rw [uniqN_mem l acc j, List.mem_cons]
      constructor
      · rintro (h | h); exact .inl (.inr h); exact .inr h
      · rintro ((rfl | h) | h); exact .inr hx; exact .inl h; exact .inr h
    | false =>
      simp only [cond_false]
      rw [uniqN_mem l (i :: acc) j, List.mem_cons, List.mem_cons]
      constructor
      · rintro (h | rfl | h); exact .inl (.inr h); exact .inl (.inl rfl); exact .inr h
      · rintro ((rfl | h) | h); exact .inr (.inl rfl); exact .inl h; exact .inr (.inr h)

mutual
theorem mergeV_ok (q : Bool) : ∀ (x y : V), mergeV q x y ≠ .u → (bif q then x else y) ≠ .u ∧ ∀ β, den β (mergeV q x y) = den β (bif q then x else y)
  | .p j o, y, h => by
    cases y <;> simp only [mergeV] at h ⊢ <;> first | (exact absurd rfl h) | skip
    rename_i j' o'
    cases hb : (Nat.beq j j' && Nat.beq o o') with
    | false => rw [hb] at h; exact absurd rfl h
    | true =>
      rw [Bool.and_eq_true] at hb
      rw [← Nat.eq_of_beq_eq_true hb.1, ← Nat.eq_of_beq_eq_true hb.2]
      exact ⟨by cases q <;> simp, fun β => by cases q <;> rfl⟩
  | .sl j o n cap, y, h => by
    cases y <;> simp only [mergeV] at h ⊢ <;> first | (exact absurd rfl h) | skip
    rename_i j' o' n' cap'
    cases hb : (Nat.beq j j' && Nat.beq o o' && Nat.beq n n' && Nat.beq cap cap') with
    | false => rw [hb] at h; exact absurd rfl h
    | true =>
      simp only [Bool.and_eq_true] at hb
      rw [← Nat.eq_of_beq_eq_true hb.1.1.1, ← Nat.eq_of_beq_eq_true hb.1.1.2, ← Nat.eq_of_beq_eq_true hb.1.2, ← Nat.eq_of_beq_eq_true hb.2]
      exact ⟨by cases q <;> simp, fun β => by cases q <;> rfl⟩
  | .s j c n, y, h => by
    cases y <;> simp only [mergeV] at h ⊢ <;> first | (exact absurd rfl h) | skip
    rename_i j' c' n'
    cases hb : (Nat.beq j j' && Nat.beq c c' && Nat.beq n n') with
    | false => rw [hb] at h; exact absurd rfl h
    | true =>
      simp only [Bool.and_eq_true] at hb
      rw [← Nat.eq_of_beq_eq_true hb.1.1, ← Nat.eq_of_beq_eq_true hb.1.2, ← Nat.eq_of_beq_eq_true hb.2]
      exact ⟨by cases q <;> simp, fun β => by cases q <;> rfl⟩
  | .m j, y, h => by
    cases y <;> simp only [mergeV] at h ⊢ <;> first | (exact absurd rfl h) | skip
    rename_i j'
    cases hb : (Nat.beq j j') with
    | false => rw [hb] at h; exact absurd rfl h
    | true =>
      rw [← Nat.eq_of_beq_eq_true hb]
      exact ⟨by cases q <;> simp, fun β => by cases q <;> rfl⟩
  | .r j a o c n, y, h => by
    cases y <;> simp only [mergeV] at h ⊢ <;> first | (exact absurd rfl h) | skip
    rename_i j' a' o' c' n'
    cases hb : (Nat.beq j j' && Nat.beq a a' && Nat.beq o o' && Nat.beq c c') with
    | false => rw [hb] at h; exact absurd rfl h
    | true =>
      simp only [Bool.and_eq_true] at hb
      rw [← Nat.eq_of_beq_eq_true hb.1.1.1, ← Nat.eq_of_beq_eq_true hb.1.1.2, ← Nat.eq_of_beq_eq_true hb.1.2, ← Nat.eq_of_beq_eq_true hb.2]
      exact ⟨by cases q <;> simp, fun β => by cases q <;> rfl⟩
  | .q j o sz i f, y, h => by
    cases y <;> simp only [mergeV] at h ⊢ <;> first | (exact absurd rfl h) | skip
    rename_i j' o' sz' i' f'
    cases hb : (Nat.beq j j' && Nat.beq o o' && Nat.beq sz sz' && Nat.beq f f') with
    | false => rw [hb] at h; exact absurd rfl h
    | true =>
      simp only [Bool.and_eq_true] at hb
      rw [← Nat.eq_of_beq_eq_true hb.1.1.1, ← Nat.eq_of_beq_eq_true hb.1.1.2, ← Nat.eq_of_beq_eq_true hb.1.2, ← Nat.eq_of_beq_eq_true hb.2]
      exact ⟨by cases q <;> simp, fun β => by cases q <;> rfl⟩
  | .w nn ad n cap ks xs, y, h => by
    cases y <;> simp only [mergeV] at h ⊢ <;> first | (exact absurd rfl h) | skip
    rename_i nn' ad' n' cap' ks' xs'
    cases hb : eqKs ks ks' with
    | false => rw [hb] at h; exact absurd rfl h
    | true =>
      rw [← eqKs_ok hb]
      exact ⟨by cases q <;> simp, fun β => by cases q <;> rfl⟩
  | .y nn ad ks xs i f, y, h => by simp only [mergeV] at h; exact absurd rfl h
  | .z j o sz len i f, y, h => by simp only [mergeV] at h; exact absurd rfl h
  | .i t x, y, h => by simp only [mergeV] at h; exact absurd rfl h
  | .a xs, y, h => by
    cases y <;> simp only [mergeV] at h ⊢ <;> first | (exact absurd rfl h) | skip
    rename_i ys
    cases hz : mergeVL q xs ys with
    | none => rw [hz] at h; exact absurd rfl h
    | some zs =>
      refine ⟨by cases q <;> simp, fun β => ?_⟩
      have := mergeVL_ok q xs ys zs hz β
      cases q <;> simp only [den, cond_true, cond_false] at this ⊢ <;> rw [this]
  | .t xs, y, h => by
    cases y <;> simp only [mergeV] at h ⊢ <;> first | (exact absurd rfl h) | skip
    rename_i ys
    cases hz : mergeVL q xs ys with
    | none => rw [hz] at h; exact absurd rfl h
    | some zs =>
      refine ⟨by cases q <;> simp, fun β => ?_⟩
      have := mergeVL_ok q xs ys zs hz β
      cases q <;> simp only [den, cond_true, cond_false] at this ⊢ <;> rw [this]
  | .f g xs ys, y, h => by
    cases y <;> simp only [mergeV] at h ⊢ <;> first | (exact absurd rfl h) | skip
    rename_i g' xs' ys'
    cases hb : (Nat.beq g g') with
    | false => rw [hb] at h; exact absurd rfl h
    | true =>
      have hg := Nat.eq_of_beq_eq_true hb
      rw [hb] at h
      simp only [cond_true] at h ⊢
      cases h1 : mergeVL q xs xs' with
      | none => rw [h1] at h; exact absurd rfl h
      | some a =>
        cases h2 : mergeVL q ys ys' with
        | none => rw [h1, h2] at h; exact absurd rfl h
        | some b =>
          refine ⟨by cases q <;> simp, fun β => ?_⟩
          have i1 := mergeVL_ok q xs xs' a h1 β
          have i2 := mergeVL_ok q ys ys' b h2 β
          cases q <;> simp only [den, cond_true, cond_false] at i1 i2 ⊢ <;> rw [i1, i2]
          rw [hg]
  | .c x, y, h => by
    simp only [mergeV] at h ⊢
    cases he : eqV (.c x) y with
    | true =>
      have := eqV_ok _ _ he
      subst this
      exact ⟨by cases q <;> simp, fun β => by cases q <;> rfl⟩
    | false =>
      rw [he] at h
      simp only [cond_false] at h ⊢
      obtain ⟨x', y', h1, h2, h3⟩ := mergeB_den h
      refine ⟨by cases q; exact val_ne h2; exact val_ne h1, fun β => ?_⟩
      rw [h3]
      cases q
      · exact (val_den β _ _ h2).symm
      · exact (val_den β _ _ h1).symm
  | .v x, y, h => by
    simp only [mergeV] at h ⊢
    obtain ⟨x', y', h1, h2, h3⟩ := mergeB_den h
    refine ⟨by cases q; exact val_ne h2; exact val_ne h1, fun β => ?_⟩
    rw [h3]
    cases q
    · exact (val_den β _ _ h2).symm
    · exact (val_den β _ _ h1).symm
  | .u, y, h => by simp [mergeV] at h
theorem mergeVL_ok (q : Bool) : ∀ (xs ys zs : List V), mergeVL q xs ys = some zs → ∀ β, denL β zs = denL β (bif q then xs else ys)
  | [], ys, zs, h, β => by
    cases ys with
    | nil => simp only [mergeVL, Option.some.injEq] at h; subst h; cases q <;> rfl
    | cons => simp [mergeVL] at h
  | x :: xs, ys, zs, h, β => by
    cases ys with
    | nil => simp [mergeVL] at h
    | cons y ys =>
      simp only [mergeVL] at h
      have go : ∀ z, mergeV q x y = z → z ≠ .u → ((mergeVL q xs ys).bind fun r => some (z :: r)) = some zs → denL β zs = denL β (bif q then x :: xs else y :: ys) := by
        intro z hz hne hh
        obtain ⟨r, hr, e⟩ := Option.bind_eq_some_iff.1 hh
        simp only [Option.some.injEq] at e
        subst e
        have i1 := (mergeV_ok q x y (by rw [hz]; exact hne)).2 β
        have i2 := mergeVL_ok q xs ys r hr β
        rw [hz] at i1
        cases q <;> simp only [denL, cond_true, cond_false] at i1 i2 ⊢ <;> rw [i1, i2]
      split at h
      · cases h
      · rename_i z hne
        exact go _ rfl (fun e => hne e) h
end

theorem mergeBlk_ok {q : Bool} {b1 b2 b : Blk} (h : mergeBlk q b1 b2 = some b) : (bif q then b1 else b2).ty = b.ty ∧
    (b.k.live = true → (bif q then b1 else b2).k = b.k ∧ True ∧ ∀ β, denL β b.cs = denL β (bif q then b1 else b2).cs) := by
  unfold mergeBlk at h
  obtain ⟨ht, h⟩ := bif_some' h
  have ht := Nat.eq_of_beq_eq_true ht
  split at h
  · rename_i h1 h2
    obtain ⟨cs, hcs, h⟩ := Option.bind_eq_some_iff.1 h
    simp only [Option.some.injEq] at h
    subst h
    have := mergeVL_ok q _ _ _ hcs
    refine ⟨by cases q; exact ht.symm; rfl, fun _ => ⟨by cases q; exact h2; exact h1, trivial, fun β => ?_⟩⟩
    have := this β
    cases q <;> exact this
  · rename_i c sz c' sz' h1 h2
    obtain ⟨hc, h3⟩ := bif_some' h
    clear h
    rw [Bool.and_eq_true] at hc
    have e1 := Nat.eq_of_beq_eq_true hc.1
    have e2 := Nat.eq_of_beq_eq_true hc.2
    subst e1; subst e2
    obtain ⟨cs, hcs, h⟩ := Option.bind_eq_some_iff.1 h3
    simp only [Option.some.injEq] at h
    subst h
    have := mergeVL_ok q _ _ _ hcs
    refine ⟨by cases q; exact ht.symm; rfl, fun _ => ⟨by cases q; exact h2; exact h1, trivial, fun β => ?_⟩⟩
    have := this β
    cases q <;> exact this
  · simp only [Option.some.injEq] at h
    subst h
    exact ⟨by cases q; exact ht.symm; rfl, fun hl => by cases hl⟩
  · rename_i a o c ks xs a' o' c' ks' xs' h1 h2
    obtain ⟨hc, h3⟩ := bif_some' h
    clear h
    simp only [Bool.and_eq_true] at hc
    obtain ⟨⟨⟨c1, c2⟩, c3⟩, c4⟩ := hc
    obtain rfl := Nat.eq_of_beq_eq_true c1
    obtain rfl := Nat.eq_of_beq_eq_true c2
    obtain rfl := Nat.eq_of_beq_eq_true c3
    obtain rfl := eqKs_ok c4
    obtain ⟨cs, hcs, h⟩ := Option.bind_eq_some_iff.1 h3
    simp only [Option.some.injEq] at h
    subst h
    have := mergeVL_ok q _ _ _ hcs
    refine ⟨by cases q; exact ht.symm; rfl, fun _ => ⟨by cases q; exact h2; exact h1, trivial, fun β => ?_⟩⟩
    have := this β
    cases q <;> exact this
  · simp only [Option.some.injEq] at h
    subst h
    exact ⟨by cases q; exact ht.symm; rfl, fun hl => by cases hl⟩
  · simp only [Option.some.injEq] at h
    subst h
    exact ⟨by cases q; exact ht.symm; rfl, fun hl => by cases hl⟩
  · cases h

theorem joinH_ok {q : Bool} {h1 h2 : Hp} : ∀ (l : List Nat) (d : Hp), joinH q h1 h2 l = some d →
    (∀ j b, lookB d j = some b → ∃ b1 b2, lookB h1 j = some b1 ∧ lookB h2 j = some b2 ∧ mergeBlk q b1 b2 = some b) ∧ ∀ j, j ∈ l → has h1 j → has h2 j → has d j
  | [], d, h => by
    simp only [joinH, Option.some.injEq] at h
    subst h
    exact ⟨fun j b hj => by simp [lookB] at hj, fun j hj => by simp at hj⟩
  | i :: l, d, h => by
    simp only [joinH] at h
    obtain ⟨r, hr, h⟩ := Option.bind_eq_some_iff.1 h
    obtain ⟨g1, g2⟩ := joinH_ok l r hr
    split at h
    · rename_i b1 b2 e1 e2
      obtain ⟨b, hb, h⟩ := Option.bind_eq_some_iff.1 h
      simp only [Option.some.injEq] at h
      subst h
      refine ⟨fun j c hj => ?_, fun j hj p1 p2 => ?_⟩
      · rw [lookB_cons] at hj
        by_cases e : j = i
        · rw [if_pos e] at hj
          simp only [Option.some.injEq] at hj
          subst hj; subst e
          exact ⟨b1, b2, e1, e2, hb⟩
        · rw [if_neg e] at hj; exact g1 j c hj
      · rw [has_cons]
        rcases List.mem_cons.1 hj with rfl | hj
        · exact .inl rfl
        · exact .inr (g2 j hj p1 p2)
    · rename_i hn
      simp only [Option.some.injEq] at h
      subst h
      refine ⟨g1, fun j hj p1 p2 => ?_⟩
      rcases List.mem_cons.1 hj with rfl | hj
      · obtain ⟨c1, hc1⟩ := p1
        obtain ⟨c2, hc2⟩ := p2
        exact (hn c1 c2 hc1 hc2).elim
      · exact g2 j hj p1 p2

theorem inH_ok {h : Hp} {l : List Nat} (e : inH h l = true) : ∀ j, j ∈ l → has h j := fun j hj => (has_any h j).1 (List.all_eq_true.1 e j hj)

theorem look_joined (f : Nat → V) (e0 : List (Nat × V)) (t : Nat) : ∀ l : List Nat, look (l.map (fun t => (t, f t)) ++ e0) t = if t ∈ l then f t else look e0 t
  | [] => by simp
  | i :: l => by
    simp only [List.map_cons, List.cons_append, look]
    by_cases e : i = t
    · subst e; simp
    · rw [beq_ne e]
      have : ¬ t = i := fun e2 => e e2.symm
      simp only [cond_false, List.mem_cons, this, false_or]
      exact look_joined f e0 t l

theorem look_suffix {e e0 : List (Nat × V)} (h : ∃ ne, e = ne ++ e0) {t : Nat} (ht : ¬ t ∈ (e.take (e.length - e0.length)).map (·.1)) : look e t = look e0 t := by
  obtain ⟨ne, rfl⟩ := h
  rw [List.length_append, Nat.add_sub_cancel, List.take_left] at ht
  induction ne with
  | nil => rfl
  | cons x ne ih =>
    obtain ⟨k, v⟩ := x
    simp only [List.map_cons, List.mem_cons, not_or] at ht
    simp only [List.cons_append, look]
    rw [beq_ne (fun e : k = t => ht.1 e.symm)]
    exact ih ht.2
theorem lookB_suffix {h h0 : Hp} (hs : ∃ d, h = d ++ h0) {j : Nat} (hj : ¬ j ∈ keysOf (h.take (h.length - h0.length))) : lookB h j = lookB h0 j := by
  obtain ⟨d, rfl⟩ := hs
  rw [List.length_append, Nat.add_sub_cancel, List.take_left] at hj
  rw [lookB_append, if_neg hj]

section
variable {F₀ : Nat → Prop} {w0 : World}

theorem imp_join {need : List Nat} {q : Bool} {s0 s1 s2 s' : St} (hw : Head s0) (k1 : Keeps s0.env.length s0 s1) (k2 : Keeps s0.env.length s0 s2) (h : joinS need q s0 s1 s2 = some s') :
    Imp F₀ w0 (bif q then s1 else s2) s' ∧ Keeps s0.env.length s0 s' := by
  unfold joinS at h
  obtain ⟨d, hd, h⟩ := Option.bind_eq_some_iff.1 h
  obtain ⟨hin, h⟩ := bif_some' h
  rw [Bool.and_eq_true] at hin
  replace hin := hin.1
  simp only [Option.some.injEq] at h
  subst h
  obtain ⟨g1, g2⟩ := joinH_ok _ _ hd
  have e1 : ∃ ne, s1.env = ne ++ s0.env := by have := k1.env; rwa [Nat.sub_self, List.drop_zero] at this
  have e2 : ∃ ne, s2.env = ne ++ s0.env := by have := k2.env; rwa [Nat.sub_self, List.drop_zero] at this
  refine ⟨?_, ⟨⟨_, by rw [Nat.sub_self, List.drop_zero]⟩, ⟨d, rfl⟩, Nat.le_trans k1.nx (Nat.le_max_left _ _), rfl⟩⟩
  have has0 : ∀ j, has s0.h j → has s1.h j ∧ has s2.h j := by
    intro j hj
    obtain ⟨d1, f1⟩ := k1.h
    obtain ⟨d2, f2⟩ := k2.h
    rw [f1, f2, has_append, has_append]
    exact ⟨.inr hj, .inr hj⟩
  obtain ⟨sX, hX⟩ : ∃ sX, sX = bif q then s1 else s2 := ⟨_, rfl⟩
  have hb : ∀ j b1 b2, lookB s1.h j = some b1 → lookB s2.h j = some b2 → lookB sX.h j = some (bif q then b1 else b2) := by
    intro j b1 b2 h1 h2
    rw [hX]; cases q; exact h2; exact h1
  have he : ∀ t, look sX.env t = bif q then look s1.env t else look s2.env t := by intro t; rw [hX]; cases q <;> rfl
  have hn : sX.n = s0.n := by rw [hX]; cases q; exact k2.n; exact k1.n
  have hnx : sX.nx ≤ Nat.max s1.nx s2.nx := by rw [hX]; cases q; exact Nat.le_max_right _ _; exact Nat.le_max_left _ _
  have hasX : ∀ j, has s1.h j → has s2.h j → has sX.h j := by intro j h1 h2; rw [hX]; cases q; exact h2; exact h1
  have henv : ∀ t, ¬ t ∈ tsOf s0 s1 s2 → look sX.env t = look s0.env t := by
    intro t ht
    unfold tsOf at ht
    rw [uniqN_mem] at ht
    simp only [List.mem_append, List.not_mem_nil, or_false, not_or] at ht
    rw [he]
    cases q
    · exact look_suffix e2 ht.2
    · exact look_suffix e1 ht.1
  have hold : ∀ j, ¬ has d j → has s0.h j → lookB sX.h j = lookB s0.h j := by
    intro j hj h0
    obtain ⟨p1, p2⟩ := has0 j h0
    have hks : ¬ j ∈ ksOf s0 s1 s2 := fun hk => hj (g2 j hk p1 p2)
    unfold ksOf at hks
    rw [uniqN_mem] at hks
    simp only [List.mem_append, List.not_mem_nil, or_false, not_or] at hks
    rw [hX]
    cases q
    · exact lookB_suffix k2.h hks.2
    · exact lookB_suffix k1.h hks.1
  have hmem : ∀ j, has (d ++ s0.h) j → has sX.h j := by
    intro j hj
    rcases (has_append _ _ _).1 hj with ⟨b, hb'⟩ | h0
    · obtain ⟨b1, b2, h1, h2, _⟩ := g1 j b hb'
      exact ⟨_, hb j b1 b2 h1 h2⟩
    · exact hasX j (has0 j h0).1 (has0 j h0).2
  -- a block of the joined memory is a block of the way's
  have hblk : ∀ j b, lookB (d ++ s0.h) j = some b → b.k.live = true → ∃ bX, lookB sX.h j = some bX ∧ bX.ty = b.ty ∧ bX.k = b.k ∧ ∀ β, denL β b.cs = denL β bX.cs := by
    intro j b hj hl
    by_cases hdj : has d j
    · rw [lookB_append, if_pos ((has_iff _ _).1 hdj)] at hj
      obtain ⟨b1, b2, h1, h2, hm⟩ := g1 j b hj
      obtain ⟨m1, m2⟩ := mergeBlk_ok hm
      obtain ⟨m2, _, m3⟩ := m2 hl
      exact ⟨_, hb j b1 b2 h1 h2, m1, m2, m3⟩
    · rw [lookB_append, if_neg (fun e => hdj ((has_iff _ _).2 e))] at hj
      exact ⟨b, by rw [hold j hdj ⟨b, hj⟩]; exact hj, rfl, rfl, fun _ => rfl⟩
  rw [← hX]
  intro β a w H hr
  refine ⟨⟨H.os, H.tape, H.output, H.size, H.keep, fun j b hj hl => ?_, fun j b hj hl => ?_, fun i j b b' hi hj l1 l2 e => ?_, fun j b hj i hi => ?_⟩, ⟨hr.defers, by rw [hr.size]; exact hn, fun t ht => ?_, fun t j hj => ?_, fun j hj => ?_⟩⟩
  · obtain ⟨bX, q1, q2, q3, q4⟩ := hblk j b hj hl
    have := H.blk j bX q1 (by rw [q3]; exact hl)
    unfold Here at this ⊢
    rw [q3] at this
    cases hk : b.k with
    | map kd => rw [hk] at this; simp only at this ⊢; rw [q4]; exact this
    | open_ a o c ks xs => rw [hk] at this; dsimp only at this ⊢; rw [← q2]; exact this
    | exact =>
      rw [hk] at this
      obtain ⟨junk, a1, a2⟩ := this
      refine ⟨junk, by rw [q4, ← q2]; exact a1, ?_⟩
      unfold Room at a2 ⊢
      rw [q3, hk] at a2
      rw [hk]
      exact a2
    | row c sz =>
      rw [hk] at this
      obtain ⟨junk, a1, a2⟩ := this
      refine ⟨junk, by rw [q4, ← q2]; exact a1, ?_⟩
      unfold Room at a2 ⊢
      rw [q3, hk] at a2
      rw [hk]
      dsimp only at a2 ⊢
      rw [q4]
      exact a2
    | num => rw [hk] at hl; cases hl
    | dead => rw [hk] at hl; cases hl
  · obtain ⟨bX, q1, q2, q3, q4⟩ := hblk j b hj (Kd.live_of_on hl)
    exact H.own j bX q1 (by rw [q3]; exact hl)
  · obtain ⟨bX, q1, _, q3, _⟩ := hblk i b hi (Kd.live_of_on l1)
    obtain ⟨bY, r1, _, r3, _⟩ := hblk j b' hj (Kd.live_of_on l2)
    exact H.inj i j bX bY q1 r1 (by rw [q3]; exact l1) (by rw [r3]; exact l2) e
  · by_cases hdj : has d j
    · rw [lookB_append, if_pos ((has_iff _ _).1 hdj)] at hj
      have : (j, b) ∈ d := by
        clear hdj hi
        have : ∀ d : Hp, lookB d j = some b → (j, b) ∈ d := by
          intro d
          induction d with
          | nil => intro h; simp [lookB] at h
          | cons x d ih =>
            obtain ⟨k, c⟩ := x
            intro h
            rw [lookB_cons] at h
            by_cases e : j = k
            · rw [if_pos e] at h; simp only [Option.some.injEq] at h; subst h; subst e; exact List.mem_cons_self
            · rw [if_neg e] at h; exact List.mem_cons_of_mem _ (ih h)
        exact this d hj
      exact inH_ok (List.all_eq_true.1 hin _ this) i (by rw [List.mem_append]; exact hi)
    · rw [lookB_append, if_neg (fun e => hdj ((has_iff _ _).2 e))] at hj
      exact (has_append _ _ _).2 (.inr (hw.h j b hj i hi))
  · dsimp only at ht ⊢
    rw [look_joined] at ht ⊢
    by_cases htt : t ∈ tsOf s0 s1 s2
    · rw [if_pos htt] at ht ⊢
      unfold cleanV at ht ⊢
      cases hc : inH (d ++ s0.h) (refs (mergeV q (look s1.env t) (look s2.env t))) with
      | false => rw [hc] at ht; exact absurd rfl ht
      | true =>
        rw [hc] at ht
        simp only [cond_true] at ht ⊢
        obtain ⟨m1, m2⟩ := mergeV_ok q _ _ ht
        rw [← he] at m1
        rw [m2 β, ← he, ← hn]
        exact hr.val t m1
    · rw [if_neg htt] at ht ⊢
      rw [← henv t htt, ← hn] at *
      exact hr.val t ht
  · dsimp only at hj
    rw [look_joined] at hj
    by_cases htt : t ∈ tsOf s0 s1 s2
    · rw [if_pos htt] at hj
      unfold cleanV at hj
      cases hc : inH (d ++ s0.h) (refs (mergeV q (look s1.env t) (look s2.env t))) with
      | false => rw [hc] at hj; simp [refs] at hj
      | true => rw [hc] at hj; exact inH_ok hc j hj
    · rw [if_neg htt] at hj
      exact (has_append _ _ _).2 (.inr (hw.env t j hj))
  · exact Nat.lt_of_lt_of_le (hr.fresh j (hmem j hj)) hnx

/-- What is joined stands for each way. -/
def Stands (F₀ : Nat → Prop) (w0 : World) (s0 : St) (K : Ex → St → Prop) (e : Ex) (s1 : St) : Prop := ∃ s'', K e s'' ∧ Keeps s0.env.length s0 s'' ∧ Imp F₀ w0 s1 s''

theorem joinT_ok {need : List Nat} {s0 : St} (hw : Head s0) {q : Bool} {x y : T} (hx : x.all fun _ s' => Keeps s0.env.length s0 s') (hy : y.all fun _ s' => Keeps s0.env.length s0 s') (K : Ex → St → Prop) (h : (joinT need s0 q x y).sat K) :
    (q = true → x.sat (Stands F₀ w0 s0 K)) ∧ (q = false → y.sat (Stands F₀ w0 s0 K)) := by
  have lift : ∀ t : T, (t.all fun _ s' => Keeps s0.env.length s0 s') → t.sat K → t.sat (Stands F₀ w0 s0 K) := by
    intro t
    induction t with
    | leaf e s => exact fun ha hk => ⟨s, hk, ha, fun β a w H hr => ⟨H, hr⟩⟩
    | ite b x y ih1 ih2 => exact fun ha hk => ⟨fun hb => ih1 ha.1 (hk.1 hb), fun hb => ih2 ha.2 (hk.2 hb)⟩
    | req p x ih => exact fun ha hk => ⟨hk.1, ih ha hk.2⟩
    | fail => exact fun _ hk => hk
  have plain : (T.ite q x y).sat K → (q = true → x.sat (Stands F₀ w0 s0 K)) ∧ (q = false → y.sat (Stands F₀ w0 s0 K)) := fun hk => ⟨fun hb => lift x hx (hk.1 hb), fun hb => lift y hy (hk.2 hb)⟩
  have go : ∀ (e : Ex) (p1 p2 : Option Prop) (s1 s2 s : St), x.strip = (p1, .leaf e s1) → y.strip = (p2, .leaf e s2) → joinS need q s0 s1 s2 = some s → (both q p1 p2 (.leaf e s)).sat K → (q = true → x.sat (Stands F₀ w0 s0 K)) ∧ (q = false → y.sat (Stands F₀ w0 s0 K)) := by
    intro e p1 p2 s1 s2 s h1 h2 hs hk
    obtain ⟨x1, x2⟩ := strip_ok _ _ _ h1
    obtain ⟨y1, y2⟩ := strip_ok _ _ _ h2
    obtain ⟨hp, hq, hK⟩ := both_sat hk
    obtain ⟨i1, i2⟩ := imp_join (F₀ := F₀) (w0 := w0) hw ((x2 _).1 hx) ((y2 _).1 hy) hs
    refine ⟨fun hb => (x1 _).2 ⟨hp hb, s, hK, i2, ?_⟩, fun hb => (y1 _).2 ⟨hq hb, s, hK, i2, ?_⟩⟩
    · rw [hb] at i1; exact i1
    · rw [hb] at i1; exact i1
  unfold joinT at h
  split at h
  · rename_i p1 s1 p2 s2 h1 h2
    split at h
    · rename_i s hs; exact go .normal p1 p2 s1 s2 s h1 h2 hs h
    · exact plain h
  · rename_i p1 s1 p2 s2 h1 h2
    split at h
    · rename_i s hs; exact go .ret p1 p2 s1 s2 s h1 h2 hs h
    · exact plain h
  · exact plain h

theorem Stands.trans {s0 : St} {K : Ex → St → Prop} {e : Ex} {s1 : St} (h : Stands F₀ w0 s0 (Stands F₀ w0 s0 K) e s1) : Stands F₀ w0 s0 K e s1 := by
  obtain ⟨s2, ⟨s3, hk, hkp, h3⟩, _, h2⟩ := h
  exact ⟨s3, hk, hkp, fun β a w H hr => let ⟨H2, r2⟩ := h2 β a w H hr; h3 β a w H2 r2⟩

theorem fold_ok {need : List Nat} {s0 : St} (hw : Head s0) : ∀ (t : T), (t.all fun _ s' => Keeps s0.env.length s0 s') → ∀ K, (t.fold need s0).sat K → t.sat (Stands F₀ w0 s0 K)
  | .leaf e s, ha, K, h => ⟨s, h, ha, fun β a w H hr => ⟨H, hr⟩⟩
  | .fail, _, _, h => h
  | .req p x, ha, K, h => ⟨h.1, fold_ok hw x ha K h.2⟩
  | .ite q x y, ha, K, h => by
    obtain ⟨h1, h2⟩ := joinT_ok (F₀ := F₀) (w0 := w0) hw (fold_keeps x ha.1) (fold_keeps y ha.2) K h
    exact ⟨fun hb => T.sat_mono (fold_ok hw x ha.1 _ (h1 hb)) fun _ _ hs => hs.trans, fun hb => T.sat_mono (fold_ok hw y ha.2 _ (h2 hb)) fun _ _ hs => hs.trans⟩

theorem At.stands {s0 s1 : St} {β β' : Nat → Nat} {a' : Act} {w' : World} {K : Ex → St → Prop} {e : Ex} (hat : At F₀ w0 β s0 s1 β' a' w') (h : Stands F₀ w0 s0 K e s1) : ∃ s'', K e s'' ∧ At F₀ w0 β s0 s'' β' a' w' := by
  obtain ⟨s'', hk, hkp, himp⟩ := h
  obtain ⟨H, r⟩ := himp β' a' w' hat.hr hat.re
  refine ⟨s'', hk, H, r, hat.ext, fun j hj => ?_, hkp.n⟩
  obtain ⟨d, e⟩ := hkp.h
  rw [e, has_append]
  exact .inr hj
end
end Go.Proofs.YtfjldllegmfooaaDoor.X
end

section
/- What the reader finds is what the machine does: the theorem. No condition. -/
namespace Go.Proofs.YtfjldllegmfooaaDoor.X
open Go.RowKit

section
variable {P : Program} {φ : Specs} {F₀ : Nat → Prop} {w0 : World}

theorem hmonoApp : ∀ (tr : List Rec) (i : Nat) (s : St) (j : Nat), has s.h j → has (app (fun _ => true) i tr s).h j
  | [], _, _, _, h => h
  | r :: tr, i, s, j, h => by
    simp only [app, cond_true]
    refine hmonoApp tr (i + 1) _ j ?_
    rw [h_after]
    have : ∀ d : Hp, has (d ++ s.h) j := by
      intro d
      induction d with
      | nil => exact h
      | cons b d ih => obtain ⟨k, b⟩ := b; exact (has_cons _ _ _ _).2 (.inr ih)
    exact this r.d

theorem code_ok (hφ : Good P φ) {n : Nat} (hS : ∀ F w0, RomOk φ.rom F w0 → Sd P F w0 n (X P φ n)) (hrom : RomOk φ.rom F₀ w0) (c : Code) (s : St) (K : Ex → St → Prop) (hP : InP P (.code c)) (h : (F P φ (X P φ n) (.code c) s).sat K)
    (β : Nat → Nat) (a : Act) (w : World) (Q : Exit → Act → World → Prop) (H : HR F₀ w0 β s.h w) (hr : RE β s a)
    (hQ : ∀ e s' β' a' w', K e s' → At F₀ w0 β s s' β' a' w' → Q (ex e) a' w') : c.wp P Q a w := by
  have hs : Sd P F₀ w0 n (X P φ n) := hS F₀ w0 hrom
  have here : ∀ e, K e s → Q (ex e) a w := fun e he => hQ e s β a w he ⟨H, hr, fun _ _ => rfl, fun _ h => h, rfl⟩
  cases c with
  | skip => exact wp_skip (here .normal h)
  | label l => exact wp_label (here .normal h)
  | exit i => exact wp_exit (here (.exit i) h)
  | ret => exact wp_ret (here .ret h)
  | goto => exact h.elim
  | refuse => exact h.elim
  | rangeFunc => exact h.elim
  | scope b =>
    refine wp_scope_straight (hs (.code b) s K hP h β a w _ H hr fun e s' β' a' w' hK hat => ?_)
    have := hQ e s' β' a' w' hK hat
    cases e <;> exact this
  | seq x y =>
    simp only [F] at h
    rw [T.sat_bind] at h
    have p1 : InP P (.code x) := fun b hb => hP b (by simp [loops, hb])
    have p2 : InP P (.code y) := fun b hb => hP b (by simp [loops, hb])
    refine wp_seq (hs (.code x) s _ p1 h β a w _ H hr fun e s' β' a' w' hK hat => ?_)
    cases e with
    | normal => exact hs (.code y) s' K p2 hK β' a' w' Q hat.hr hat.re fun e s'' β'' a'' w'' hK' hat' => hQ e s'' β'' a'' w'' hK' (hat.trans hat')
    | ret => exact hQ .ret s' β' a' w' hK hat
    | exit i => exact hQ (.exit i) s' β' a' w' hK hat
  | cond c x y =>
    have p1 : InP P (.code x) := fun b hb => hP b (by simp [loops, hb])
    have p2 : InP P (.code y) := fun b hb => hP b (by simp [loops, hb])
    simp only [F] at h
    split at h
    · rename_i q hq
      have hc : a.eval c = .bool q := (ev_ok hr c (by rw [hq]; simp)).trans (by rw [hq]; rfl)
      cases q with
      | true => exact wp_cond_true hc (hs (.code x) s K p1 h β a w Q H hr hQ)
      | false => exact wp_cond_false hc (hs (.code y) s K p2 h β a w Q H hr hQ)
    · rename_i q hq
      have hc : a.eval c = .bool q := (ev_ok hr c (by rw [hq]; simp)).trans (by rw [hq]; rfl)
      obtain ⟨j1, j2⟩ := joinT_ok (F₀ := F₀) (w0 := w0) ⟨hr.wf, H.wf, hr.fresh⟩ (X_keeps hφ n (.code x) s p1 (Nat.le_refl _)) (X_keeps hφ n (.code y) s p2 (Nat.le_refl _)) K h
      have hQ' : ∀ e s' β' a' w', Stands F₀ w0 s K e s' → At F₀ w0 β s s' β' a' w' → Q (ex e) a' w' := fun e s' β' a' w' hst hat => by
        obtain ⟨s'', hk, hat'⟩ := hat.stands hst
        exact hQ e s'' β' a' w' hk hat'
      exact wp_cond_split hc (fun hb => hs (.code x) s _ p1 (j1 hb) β a w Q H hr hQ') (fun hb => hs (.code y) s _ p2 (j2 hb) β a w Q H hr hQ')
    · exact h.elim
  | block id b =>
    simp only [F] at h
    have hall : ((X P φ n (.code b) s).bind fun e s' => match e with
      | .exit i => bif Nat.beq i id then T.leaf .normal s' else .leaf (.exit i) s'
      | e => .leaf e s').all fun _ s' => Keeps s.env.length s s' := by
      refine T.all_bind (X_keeps hφ n (.code b) s hP (Nat.le_refl _)) fun e s' h => ?_
      cases e with
      | normal => exact h
      | ret => exact h
      | exit i => dsimp only; cases Nat.beq i id <;> exact h
    replace h := fold_ok (F₀ := F₀) (w0 := w0) ⟨hr.wf, H.wf, hr.fresh⟩ _ hall K h
    rw [T.sat_bind] at h
    replace hQ : ∀ e s' β' a' w', Stands F₀ w0 s K e s' → At F₀ w0 β s s' β' a' w' → Q (ex e) a' w' := fun e s' β' a' w' hst hat => by
      obtain ⟨s'', hk, hat'⟩ := hat.stands hst
      exact hQ e s'' β' a' w' hk hat'
    refine wp_block (hs (.code b) s _ hP h β a w _ H hr fun e s' β' a' w' hK hat => ?_)
    cases e with
    | normal => exact hQ .normal s' β' a' w' hK hat
    | ret => exact hQ .ret s' β' a' w' hK hat
    | exit i =>
      dsimp only at hK
      show Exit.inBlock id Q (.exit i) a' w'
      unfold Exit.inBlock
      by_cases e : i = id
      · subst e
        rw [show Nat.beq i i = true by simp] at hK
        simp only [if_true]
        exact hQ .normal s' β' a' w' hK hat
      · rw [beq_ne e] at hK
        simp only [if_neg e]
        exact hQ (.exit i) s' β' a' w' hK hat
  | loop b =>
    simp only [F] at h
    split at h
    · rename_i r hr'
      split at h
      · rename_i t ht
        exact (hφ.ls b r (hP b (by simp [loops])) hr' s t ht).2 F₀ w0 β a w K Q hrom H hr h hQ
      · exact h.elim
    · exact wp_loop_rounds n (hs (.rounds b) s K (fun b' hb' => hP b' (by simp [loops, hb'])) h β a w Q H hr hQ)
  | region id ops draw =>
    simp only [F] at h
    cases draw with
    | true =>
      simp only [cond_true] at h
      replace h := fold_ok (F₀ := F₀) (w0 := w0) ⟨hr.wf, H.wf, hr.fresh⟩ _ drawn_keeps K h
      unfold drawn at h
      cases hmx : P.follows .mixedOrders with
      | false => rw [hmx] at h; exact h.elim
      | true =>
      rw [hmx] at h
      simp only [cond_true] at h
      split at h
      · exact h.elim
      · rename_i ms hms
        obtain ⟨tr, k', h, hlen, hkk, hop⟩ := trace_sat _ _ _ _ h
        cases hok : (okAll ops tr ms && Nat.ble s.nx k') with
        | false => rw [hok] at h; exact h.elim
        | true =>
        rw [hok] at h
        simp only [cond_true] at h
        rw [Bool.and_eq_true] at hok
        have pl := plan_of (P := P) (φ := φ) (ih := X P φ n) (k := s.nx) (k' := k') hlen hop hms hok.1 h
        have hK := (loads_sat _ h).2
        have pl' : Plan P φ (X P φ n) ops s.nx ({ s with nx := k' } : St).nx { s with nx := k' } tr := by
          refine ⟨pl.len, fun i o ho => ?_, pl.edge, pl.dst, pl.data, pl.heap, pl.keys, pl.new, fun i ri t b o D hi hp hDi hD => ?_⟩
          · obtain ⟨r, h1, h2, h3⟩ := pl.op i o ho
            exact ⟨r, h1, by rw [app_nx]; exact recOk_nx h2, h3⟩
          · rw [app_nx]; exact pl.load i ri t b o D hi hp hDi hD
        have hf : ∀ (D : Nat → Bool) (i : Nat) (t : St), (∀ j, D j = false) → app D i tr t = t := by
          have : ∀ (D : Nat → Bool) (tr : List Rec) (i : Nat) (t : St), (∀ j, D j = false) → app D i tr t = t := by
            intro D tr
            induction tr with
            | nil => intro i t _; rfl
            | cons _ _ ih => intro i t hD; simp only [app, hD, cond_false]; exact ih _ _ hD
          exact fun D i t hD => this D tr i t hD
        have hD0 : ∀ j, (Array.replicate ops.size false).getD j false = false := fun j => by
          rw [Array.getD_eq_getD_getElem?, Array.getElem?_replicate]
          split <;> rfl
        have hre0 : RE β { s with nx := k' } a := ⟨hr.defers, hr.size, hr.val, hr.wf, fun j hj => by have := hr.fresh j hj; dsimp only; omega⟩
        refine wp_region_any hmx (drawn_any (F₀ := F₀) (w0 := w0) hφ hS hrom pl' hr.fresh (β₀ := β) Q ?_ ops.size (Array.replicate ops.size false) a _ β (by simp) ?_ ?_ ?_ ?_ (fun _ _ => rfl) ?_)
        · intro β' a' w' H' hr' hext
          obtain ⟨s'', hk, hat'⟩ := At.stands (⟨H', hr', hext, fun j hj => hmonoApp tr 0 { s with nx := k' } j hj, (app_n _ tr 0 _).1⟩ : At F₀ w0 β s _ β' a' w') hK
          exact hQ .normal s'' β' a' w' hk hat'
        · have := List.countP_le_length (p := fun b => !b) (l := (Array.replicate ops.size false).toList)
          simpa using this
        · intro x o _ hx
          rw [hD0] at hx; cases hx
        · rw [hf _ 0 _ hD0]; exact H.drew
        · rw [hf _ 0 _ hD0]; exact hre0
        · intro j hj; rw [hf _ 0 _ hD0]; exact hj
    | false =>
      simp only [cond_false] at h
      cases hg : (ops.toList.any (fun o => o.guard.isSome) && ops.toList.all (calm φ)) with
      | false =>
        rw [hg] at h
        exact wp_region_list (hs (.ops ops.toList ops s.env.length) s K trivial h β a w Q H hr hQ)
      | true =>
        rw [hg] at h
        simp only [cond_true] at h
        have hcalm : ops.toList.all (calm φ) = true := by simp only [Bool.and_eq_true] at hg; exact hg.2
        have hall := ops_all (P := P) (φ := φ) s hr.fresh ops n ops.toList s ⟨rfl, ⟨[], by simp⟩, fun _ _ h => h, rfl, Nat.le_refl _⟩ hcalm
        obtain ⟨_, hm⟩ := merge_ok (F₀ := F₀) (w0 := w0) ⟨hr.wf, H.wf, hr.fresh⟩ _ hall
        refine wp_region_list (hs (.ops ops.toList ops s.env.length) s _ trivial (hm K h) β a w Q H hr ?_)
        rintro e s' β' a' w' ⟨s'', hK, hbase, himp⟩ hat
        obtain ⟨H'', r''⟩ := himp β' a' w' hat.hr hat.re
        obtain ⟨rfl, _, b2, b3, _⟩ := hbase
        exact hQ .normal s'' β' a' w' hK ⟨H'', r'', hat.ext, fun j ⟨b, hj⟩ => ⟨b, b2 j b hj⟩, b3⟩

theorem X_all (hφ : Good P φ) : ∀ n, ∀ F₀ w0, RomOk φ.rom F₀ w0 → Sd P F₀ w0 n (X P φ n) := by
  intro n
  induction n with
  | zero => intro F₀ w0 _ task s K _ h; exact h.elim
  | succ n hS =>
    intro F₀ w0 hrom task s K hP h β a w Q H hr hQ
    have hs : Sd P F₀ w0 n (X P φ n) := hS F₀ w0 hrom
    cases task with
    | code c => exact code_ok hφ hS hrom c s K hP h β a w Q H hr hQ
    | fold c need =>
      have h1 := fold_ok (F₀ := F₀) (w0 := w0) ⟨hr.wf, H.wf, hr.fresh⟩ _ (X_keeps hφ n (.code c) s hP (Nat.le_refl _)) K h
      exact hs (.code c) s _ hP h1 β a w Q H hr fun e s' β' a' w' hst hat => by
        obtain ⟨s'', hk, hat'⟩ := hat.stands hst
        exact hQ e s'' β' a' w' hk hat'
    | ops l all m => exact ops_ok hφ hs hrom l all m s K h β a w Q H hr hQ
    | rounds b =>
      show Code.rounds P b Q (n + 1) a w
      rw [rounds_succ]
      have h' : ((X P φ n (.code b) s).bind fun e s' => match e with | .normal => X P φ n (.rounds b) s' | e => .leaf e s').sat K := h
      rw [T.sat_bind] at h'
      refine hs (.code b) s _ hP h' β a w _ H hr fun e s' β' a' w' hK hat => ?_
      cases e with
      | normal => exact hs (.rounds b) s' K hP hK β' a' w' Q hat.hr hat.re fun e s'' β'' a'' w'' hK' hat' => hQ e s'' β'' a'' w'' hK' (hat.trans hat')
      | ret => exact hQ .ret s' β' a' w' hK hat
      | exit i => exact hQ (.exit i) s' β' a' w' hK hat

theorem X_ok (hφ : Good P φ) (hrom : RomOk φ.rom F₀ w0) : ∀ n, Sd P F₀ w0 n (X P φ n) := fun n => X_all hφ n F₀ w0 hrom

theorem T.sat_resM {fn : Func} : ∀ (t : T) (z : Value), t.resM P fn = some z → t.sat fun e s => (match e with | .exit _ => False | _ => True) ∧ (X.res P fn s).bind val = some z := by
  intro t
  induction t with
  | leaf e s =>
    intro z h
    cases e with
    | exit i => simp [T.resM] at h
    | normal => exact ⟨trivial, h⟩
    | ret => exact ⟨trivial, h⟩
  | fail => intro z h; simp [T.resM] at h
  | req p x _ => intro z h; simp [T.resM] at h
  | ite b x y ih1 ih2 =>
    intro z h
    unfold T.resM at h
    split at h
    · rename_i h1 h2
      simp only [Option.some.injEq] at h
      subst h
      exact ⟨fun hb => by subst hb; exact ih1 _ h1, fun hb => by subst hb; exact ih2 _ h2⟩
    · rename_i k p k' q h1 h2
      split at h
      · obtain rfl : k = k' := by assumption
        simp only [Option.some.injEq] at h
        subst h
        exact ⟨fun hb => by subst hb; exact ih1 _ h1, fun hb => by subst hb; exact ih2 _ h2⟩
      · cases h
    · rename_i h1 h2
      simp only [Option.some.injEq] at h
      subst h
      exact ⟨fun hb => by subst hb; exact ih1 _ h1, fun hb => by subst hb; exact ih2 _ h2⟩
    · rename_i h1 h2
      simp only [Option.some.injEq] at h
      subst h
      exact ⟨fun hb => by subst hb; exact ih1 _ h1, fun hb => by subst hb; exact ih2 _ h2⟩
    · cases h

theorem HR.start (w : World) (β : Nat → Nat) : HR (fun _ => False) w β [] w :=
  ⟨rfl, rfl, rfl, Nat.le_refl _, fun _ _ _ => rfl, fun j b hj => by simp [lookB] at hj, fun j b hj => by simp [lookB] at hj, fun i j b b' hi => by simp [lookB] at hi, fun j b hb => by simp [lookB] at hb⟩

/-- A function that makes what it hands back: each way's result and memory, by K. -/
theorem calls_of_sat (hφ : Good P φ) (hrom : ∀ nn ad ks xs, ¬ φ.rom nn ad ks xs) {g : FuncId} {fn : Func} (hf : P.funcs[g]? = some fn) (n : Nat) (args : List V) (vs : List Value) (hv : valL args = some vs) (hb : refsL args = []) (w : World) (hgl : GlW w) (R : Ending → World → Prop)
    (h : (run P φ n fn args).sat fun e s => (match e with | .exit _ => False | _ => True) ∧ ∃ x, X.res P fn s = some x ∧ ∀ β w', HR (fun _ => False) w β s.h w' → (∀ j, j ∈ refs x → has s.h j) → R (.returned (den β x)) w') :
    Calls P g vs.toArray w R := by
  unfold run at h
  split at h
  · rename_i c hc
    have hd : denL (fun _ => 0) args = vs := valL_den _ _ _ hv
    refine calls_of_wp hf hc ?_
    have hre := enter_ok (β := fun _ => 0) (h := []) args (by rw [hb]; simp) fn.ntmps 0 (fun j hj => by obtain ⟨b, hj⟩ := hj; simp [lookB] at hj)
    rw [hd] at hre
    refine X_ok hφ ⟨fun nn ad ks xs h => absurd h (hrom nn ad ks xs), hgl, fun _ _ hf => hf⟩ n (.fold c (needOf fn)) _ _ (inP_body hf hc _) h (fun _ => 0) _ w _ (HR.start w _) hre fun e s' β' a' w' hK hat => ?_
    obtain ⟨he, x, hx, hR⟩ := hK
    obtain ⟨hrun, hrefs⟩ := res_ok hat.hr hat.re hx
    have fin : bodyPost P fn R .normal a' w' := ⟨hat.re.defers, _, hrun, hR β' w' hat.hr hrefs⟩
    cases e with
    | normal => exact fin
    | ret => exact fin
    | exit i => exact he.elim
  · exact h.elim

theorem HR.below_ {w w' : World} {β : Nat → Nat} {h : Hp} (H : HR (fun _ => False) w β h w') : Below w.heap.size w w' := ⟨H.os, H.tape, H.output, H.size, fun k hk => H.keep k hk (fun hf => hf)⟩

/-- A function that only computes: what the reader finds is what a call hands back. -/
theorem calls_of_run (hφ : Good P φ) (hrom : ∀ nn ad ks xs, ¬ φ.rom nn ad ks xs) {g : FuncId} {fn : Func} (hf : P.funcs[g]? = some fn) (n : Nat) (args : List V) (vs : List Value) (hv : valL args = some vs) (hb : refsL args = []) (z : Value)
    (h : (run P φ n fn args).resM P fn = some z) (w : World) (hgl : GlW w) : Calls P g vs.toArray w fun e w' => e = .returned z ∧ Below w.heap.size w w' := by
  refine calls_of_sat hφ hrom hf n args vs hv hb w hgl _ (T.sat_mono (T.sat_resM _ _ h) ?_)
  rintro e s ⟨he, hz⟩
  obtain ⟨x, hx, hxv⟩ := Option.bind_eq_some_iff.1 hz
  exact ⟨he, x, hx, fun β w' H _ => ⟨by rw [val_den β _ _ hxv], H.below_⟩⟩

theorem good_nil : Good P {} := ⟨fun g r h => by simp [spec, find] at h, fun g r h => by simp [cspec, find] at h, fun b r _ h => by simp [lspec] at h⟩
theorem good_cons {g : FuncId} {r : List Value → Option Value} (h : ∀ vs z, r vs = some z → ∀ w, GlW w → Calls P g vs.toArray w fun e w' => e = .returned z ∧ Below w.heap.size w w') (hφ : Good P φ) : Good P { φ with fs := (g, r) :: φ.fs } := by
  refine ⟨fun g' r' h' vs z hz w => ?_, hφ.cs, hφ.ls⟩
  simp only [spec, find] at h'
  cases hb : Nat.beq g g' with
  | true =>
    rw [hb] at h'
    simp only [cond_true, Option.some.injEq] at h'
    subst h'
    rw [← Nat.eq_of_beq_eq_true hb]
    exact h vs z hz w
  | false => rw [hb] at h'; exact hφ.fs g' r' h' vs z hz w
theorem valL_mapv (l : List Value) : valL (l.map .v) = some l := by
  induction l with
  | nil => rfl
  | cons x l ih => simp [valL, val, ih]
theorem good_self (hφ : Good P φ) (hrom : ∀ nn ad ks xs, ¬ φ.rom nn ad ks xs) (n : Nat) (g : FuncId) : Good P (self P n φ g) := by
  unfold self
  split
  · rename_i fn hf
    exact good_cons (fun vs z hz w => calls_of_run hφ hrom hf n _ vs (valL_mapv vs) (refsL_mapv vs) z hz w) hφ
  · exact hφ
theorem self_rom (n : Nat) (g : FuncId) : (self P n φ g).rom = φ.rom := by
  unfold self
  split <;> rfl
theorem good_selfs (hφ : Good P φ) (hrom : ∀ nn ad ks xs, ¬ φ.rom nn ad ks xs) (n : Nat) (gs : List FuncId) : Good P (selfs P n φ gs) := by
  induction gs generalizing φ with
  | nil => exact hφ
  | cons g gs ih => exact ih (good_self hφ hrom n g) (by rw [self_rom]; exact hrom)
theorem selfs_rom (n : Nat) (gs : List FuncId) : (selfs P n φ gs).rom = φ.rom := by
  induction gs generalizing φ with
  | nil => rfl
  | cons g gs ih => exact (ih (φ := self P n φ g)).trans (self_rom n g)
end
end Go.Proofs.YtfjldllegmfooaaDoor.X
end

section
/- Patterns of values and memory, and what it is to fit one: definitions. No condition. -/
namespace Go.Proofs.YtfjldllegmfooaaDoor.X
open Go.RowKit

/-- What a pattern's holes are filled with: numbers, texts and truths (D), rows (R). -/
structure Dt where
  D : Nat → Value
  R : Nat → List (List Value)
def Dt.I (σ : Dt) (n : Nat) : Int := asI (σ.D n)
def Dt.B (σ : Dt) (n : Nat) : Bool := asB (σ.D n)
def Dt.S (σ : Dt) (n : Nat) : ByteArray := asS (σ.D n)

/-- Where rows that are only read lie: not nil, the place, the room. -/
structure At' where
  nn : Nat → Bool
  ad : Nat → Addr
  cap : Nat → Nat

/-- Patterns: holes for numbers, truths, texts; what is known whole; what must be equal; the place of a block; a row of one's own (its block is key j, its numbers j + 1, j + 2, j + 3), its elements a hole or known; a row that is there already; a row that is only read; function values; structs; tuples. -/
inductive Pt where
  | i (k : IntKind) (n : Nat)
  | b (n : Nat)
  | s (n : Nat)
  | c (x : Value)
  | gi (k : IntKind) (x : Int)
  | gb (x : Bool)
  | gs (x : ByteArray)
  | p (j o : Nat)
  | r (j : Nat) (ty : TypeId) (ks : List PK)
  | gr (j : Nat) (ty : TypeId) (ks : List PK) (xs : List (List Value))
  | k (j n : Nat)
  | x (j : Nat) (ty : TypeId) (ks : List PK)
  | gx (nn : Bool) (ad : Addr) (n cap : Nat) (ks : List PK) (xs : List (List Value))
  | f (g : FuncId) (xs ys : List Pt)
  | a (xs : List Pt)
  | t (xs : List Pt)

mutual
def fill (σ : Dt) (α : At') : Pt → V
  | .i k n => .v (.int k (σ.I n))
  | .b n => .v (.bool (σ.B n))
  | .s n => .v (.string (σ.S n))
  | .c x => .c x
  | .gi k x => .v (.int k x)
  | .gb x => .v (.bool x)
  | .gs x => .v (.string x)
  | .p j o => .p j o
  | .r j _ _ => .r j (j + 1) (j + 2) (j + 3) (σ.R j).length
  | .gr j _ _ xs => .r j (j + 1) (j + 2) (j + 3) xs.length
  | .k j n => .r j (j + 1) (j + 2) (j + 3) n
  | .x j _ ks => .w (α.nn j) (α.ad j) (σ.R j).length (α.cap j) ks (σ.R j)
  | .gx nn ad n cap ks xs => .w nn ad n cap ks xs
  | .f g xs ys => .f g (fillL σ α xs) (fillL σ α ys)
  | .a xs => .a (fillL σ α xs)
  | .t xs => .t (fillL σ α xs)
termination_by structural x => x
def fillL (σ : Dt) (α : At') : List Pt → List V
  | [] => []
  | x :: xs => fill σ α x :: fillL σ α xs
termination_by structural x => x
end

mutual
/-- The rows of one's own in a pattern. -/
def rws (σ : Dt) : Pt → List (Nat × TypeId × List PK × List (List Value))
  | .r j ty ks => [(j, ty, ks, σ.R j)]
  | .gr j ty ks xs => [(j, ty, ks, xs)]
  | .f _ xs ys => rwsL σ xs ++ rwsL σ ys
  | .a xs => rwsL σ xs
  | .t xs => rwsL σ xs
  | .i _ _ => []
  | .b _ => []
  | .s _ => []
  | .c _ => []
  | .gi _ _ => []
  | .gb _ => []
  | .gs _ => []
  | .p _ _ => []
  | .k _ _ => []
  | .x _ _ _ => []
  | .gx _ _ _ _ _ _ => []
termination_by structural x => x
def rwsL (σ : Dt) : List Pt → List (Nat × TypeId × List PK × List (List Value))
  | [] => []
  | x :: xs => rws σ x ++ rwsL σ xs
termination_by structural x => x
end

mutual
/-- The rows that are only read in a pattern. -/
def lent (σ : Dt) : Pt → List (Nat × List PK × List (List Value))
  | .x j _ ks => [(j, ks, σ.R j)]
  | .f _ xs ys => lentL σ xs ++ lentL σ ys
  | .a xs => lentL σ xs
  | .t xs => lentL σ xs
  | .i _ _ => []
  | .b _ => []
  | .s _ => []
  | .c _ => []
  | .gi _ _ => []
  | .gb _ => []
  | .gs _ => []
  | .p _ _ => []
  | .k _ _ => []
  | .r _ _ _ => []
  | .gr _ _ _ _ => []
  | .gx _ _ _ _ _ _ => []
termination_by structural x => x
def lentL (σ : Dt) : List Pt → List (Nat × List PK × List (List Value))
  | [] => []
  | x :: xs => lent σ x ++ lentL σ xs
termination_by structural x => x
end

abbrev Bls := List (Nat × TypeId × List Pt)

/-- All patterns of a view: values, and the cells of blocks. -/
def allP (ps : List Pt) (bl : Bls) : List Pt := ps ++ bl.flatMap fun x => x.2.2

/-- The memory of a view. -/
def viewH (σ : Dt) (α : At') (ps : List Pt) (bl : Bls) : Hp :=
  (bl.map fun x => (x.1, (⟨x.2.1, fillL σ α x.2.2, .exact⟩ : Blk))) ++ (rwsL σ (allP ps bl)).flatMap fun x => laidO x.1 x.2.1 x.2.2.1 x.2.2.2

def nodupB : List Nat → Bool
  | [] => true
  | j :: l => !(l.any (Nat.beq j)) && nodupB l

/-- A view names its own blocks alone, each once. -/
def viewWf (σ : Dt) (α : At') (ps : List Pt) (bl : Bls) : Bool :=
  nodupB (keysOf (viewH σ α ps bl)) && (refsL (fillL σ α (allP ps bl))).all fun j => (keysOf (viewH σ α ps bl)).any (Nat.beq j)

/-- A fit under way. -/
structure M where
  D : List (Nat × Value)
  R : List (Nat × List (List Value))
  ρ : List (Nat × Nat)
  L : List (Nat × V)
  p : Prop
  h : Hp
  nx : Nat

def M.dt (m : M) : Dt := ⟨fun n => (find m.D n).getD undef, fun n => (find m.R n).getD []⟩
def M.ρf (m : M) : Nat → Nat := fun j => (find m.ρ j).getD 0

def M.bindD (m : M) (n : Nat) (x : Value) : Option M :=
  match find m.D n with
  | some _ => none
  | none => some { m with D := (n, x) :: m.D }
def M.bindR (m : M) (n : Nat) (xs : List (List Value)) : Option M :=
  match find m.R n with
  | some _ => none
  | none => some { m with R := (n, xs) :: m.R }
def M.bindL (m : M) (n : Nat) (v : V) : Option M :=
  match find m.L n with
  | some _ => none
  | none => some { m with L := (n, v) :: m.L }
/-- A key for a block: as it was named before, or new. -/
def M.bindρ (m : M) (j j' : Nat) : Option M :=
  match find m.ρ j with
  | some i => bif Nat.beq i j' then some m else none
  | none => some { m with ρ := (j, j') :: m.ρ }
def M.ask (m : M) (q : Prop) : M := { m with p := m.p ∧ q }

/-- A slice as a row of open length. -/
structure RowAt where
  j : Nat
  a : Nat
  o : Nat
  c : Nat
  n : Nat
  xs : List (List Value)
  d : Hp
  nx : Nat

def asRow (h : Hp) (nx : Nat) (ty : TypeId) (ks : List PK) : V → Option RowAt
  | .r j a o c n => (lookB h j).bind fun b => match b.k with
    | .open_ a' o' c' ks' xs => bif Nat.beq a a' && Nat.beq o o' && Nat.beq c c' && eqKs ks ks' && Nat.beq b.ty ty then some ⟨j, a, o, c, n, xs, [], nx⟩ else none
    | _ => none
  | .c (.slice none 0 0) => bif Nat.ble 1 ks.length then some ⟨nx, nx + 1, nx + 2, nx + 3, 0, [], laidO nx ty ks [], nx + 4⟩ else none
  | .s j c n => (lookB h j).bind fun b => match b.k with
    | .row c' sz => bif Nat.beq c c' && Nat.beq sz ks.length && Nat.beq b.ty ty && Nat.ble 1 sz then
        (chunk ks n b.cs).bind fun xs => some ⟨j, nx, nx + 1, c, n, xs, [(j, ⟨ty, [], .open_ nx (nx + 1) c ks xs⟩), (nx + 1, ⟨ty, [], .num⟩), (nx, ⟨ty, [], .num⟩)], nx + 4⟩ else none
    | _ => none
  | .sl j 0 n cap => (lookB h j).bind fun b => match b.k with
    | .exact => bif Nat.beq n cap && Nat.beq b.ty ty && Nat.ble 1 ks.length && Nat.ble n maxLen then
        (chunk ks n b.cs).bind fun xs => some ⟨j, nx, nx + 1, nx + 2, n, xs, [(j, ⟨ty, [], .open_ nx (nx + 1) (nx + 2) ks xs⟩), (nx + 2, ⟨ty, [], .num⟩), (nx + 1, ⟨ty, [], .num⟩), (nx, ⟨ty, [], .num⟩)], nx + 4⟩ else none
    | _ => none
  | _ => none

def M.row (m : M) (j : Nat) (r : RowAt) : Option M :=
  (({ m with h := r.d ++ m.h, nx := r.nx } : M).bindρ j r.j).bind fun m => (m.bindρ (j + 1) r.a).bind fun m => (m.bindρ (j + 2) r.o).bind fun m => m.bindρ (j + 3) r.c

def tupleC : V → Option (List V)
  | .t xs => some xs
  | .c (.tuple xs) => some (xs.toList.map .c)
  | .v (.tuple xs) => some (xs.toList.map .v)
  | _ => none

abbrev RomP := Bool → Addr → List PK → List (List Value) → Prop

mutual
def mt (rom : RomP) : Pt → V → M → Option M
  | .i k n, v, m => match val v with
    | some (.int k' x) => match decEq k k' with | .isTrue _ => m.bindD n (.int k x) | .isFalse _ => none
    | _ => none
  | .b n, v, m => match val v with
    | some (.bool x) => m.bindD n (.bool x)
    | _ => none
  | .s n, v, m => match val v with
    | some (.string x) => m.bindD n (.string x)
    | _ => none
  | .c x, v, m => (val v).bind fun y => bif isC v then (bif eqAt y x then some m else none) else some (m.ask (y = x))
  | .gi k x, v, m => match val v with
    | some (.int k' y) => match decEq k k' with | .isTrue _ => some (m.ask (y = x)) | .isFalse _ => none
    | _ => none
  | .gb x, v, m => match val v with
    | some (.bool y) => some (m.ask (y = x))
    | _ => none
  | .gs x, v, m => match val v with
    | some (.string y) => some (m.ask (y = x))
    | _ => none
  | .p j o, v, m => match v with
    | .p j' o' => bif Nat.beq o o' then m.bindρ j j' else none
    | _ => none
  | .r j ty ks, v, m => (asRow m.h m.nx ty ks v).bind fun r => (m.row j r).bind fun m => ((m.bindR j r.xs).bind fun m => some (m.ask (r.n = r.xs.length)))
  | .gr j ty ks xs, v, m => (asRow m.h m.nx ty ks v).bind fun r => (m.row j r).bind fun m => some (m.ask (r.n = r.xs.length ∧ r.xs = xs))
  | .k j n, v, m => match v with
    | .r j' a o c n' => (m.bindρ j j').bind fun m => (m.bindρ (j + 1) a).bind fun m => (m.bindρ (j + 2) o).bind fun m => (m.bindρ (j + 3) c).bind fun m => some (m.ask (n' = n))
    | _ => none
  | .x j ty ks, v, m => match v with
    | .w nn ad n cap ks' xs => bif eqKs ks ks' then (m.bindR j xs).bind fun m => (m.bindL j (.w nn ad n cap ks' xs)).bind fun m => some (m.ask (rom nn ad ks' xs ∧ n = xs.length)) else none
    | v => (asRow m.h m.nx ty ks v).bind fun r => (m.bindR j r.xs).bind fun m => (m.bindL j (.r r.j r.a r.o r.c r.n)).bind fun m => some (({ m with h := r.d ++ m.h, nx := r.nx } : M).ask (r.n = r.xs.length))
  | .gx nn ad n cap ks xs, v, m => match v with
    | .w nn' ad' n' cap' ks' xs' => bif eqKs ks ks' then some (m.ask (nn' = nn ∧ ad' = ad ∧ n' = n ∧ cap' = cap ∧ xs' = xs)) else none
    | _ => none
  | .f g xs ys, v, m => match target v with
    | some (g', as, bs) => bif Nat.beq g g' then (mtL rom xs as m).bind fun m => mtL rom ys bs m else none
    | none => none
  | .a xs, v, m => bif isAg v then (cells v).bind fun cs => mtL rom xs cs m else none
  | .t xs, v, m => (tupleC v).bind fun cs => mtL rom xs cs m
termination_by structural x => x
def mtL (rom : RomP) : List Pt → List V → M → Option M
  | [], [], m => some m
  | [], _ :: _, _ => none
  | _ :: _, [], _ => none
  | p :: ps, v :: vs, m => (mt rom p v m).bind fun m => mtL rom ps vs m
termination_by structural x => x
end

/-- Blocks, cell by cell. -/
def mtH (rom : RomP) : Bls → M → Option M
  | [], m => some m
  | (j, ty, ps) :: l, m => (find m.ρ j).bind fun j' => (lookB m.h j').bind fun b => match b.k with
    | .exact => bif Nat.beq b.ty ty then (mtL rom ps b.cs m).bind fun m => mtH rom l m else none
    | _ => none

def isEx (h : Hp) (j : Nat) : Bool :=
  match lookB h j with
  | some b => match b.k with
    | .exact => true
    | _ => false
  | none => false

def isNum (h : Hp) (j : Nat) : Bool :=
  match lookB h j with
  | some b => match b.k with
    | .num => true
    | _ => false
  | none => false
def numAt (m : M) (i : Nat) : Bool :=
  match find m.ρ i with
  | some j => isNum m.h j
  | none => false

/-- The blocks that were named are there once each, and what is lent is not among them. -/
def okM (ps : List Pt) (bl : Bls) (m : M) : Bool :=
  (rwsL m.dt (allP ps bl)).all (fun r => numAt m (r.1 + 1) && numAt m (r.1 + 2) && numAt m (r.1 + 3)) && nodupB (m.ρ.map (·.2)) && bl.all (fun x => match find m.ρ x.1 with | some j' => isEx m.h j' | none => false) &&
    m.L.all fun x => (refs x.2).all fun j => !((m.ρ.map (·.2)).any (Nat.beq j))

def M.start (h : Hp) (nx : Nat) (ρ : List (Nat × Nat)) : M := ⟨[], [], ρ, [], True, h, nx⟩

/-- A view that fits. -/
def view (rom : RomP) (ps : List Pt) (bl : Bls) (vs : List V) (h : Hp) (nx : Nat) (ρ : List (Nat × Nat)) : Option M :=
  (mtL rom ps vs (M.start h nx ρ)).bind fun m => (mtH rom bl m).bind fun m => bif okM ps bl m then some m else none

mutual
def renV (ρ : Nat → Nat) : V → V
  | .c x => .c x
  | .v x => .v x
  | .p j o => .p (ρ j) o
  | .sl j o n cap => .sl (ρ j) o n cap
  | .s j c n => .s (ρ j) (ρ c) n
  | .m j => .m (ρ j)
  | .r j a o c n => .r (ρ j) (ρ a) (ρ o) (ρ c) n
  | .q j o sz i f => .q (ρ j) (ρ o) sz i f
  | .w nn ad n cap ks xs => .w nn ad n cap ks xs
  | .y nn ad ks xs i f => .y nn ad ks xs i f
  | .z j o sz len i f => .z (ρ j) o sz len i f
  | .f g xs ys => .f g (renVL ρ xs) (renVL ρ ys)
  | .i t x => .i t (renV ρ x)
  | .a xs => .a (renVL ρ xs)
  | .t xs => .t (renVL ρ xs)
  | .u => .u
termination_by structural x => x
def renVL (ρ : Nat → Nat) : List V → List V
  | [] => []
  | x :: xs => renV ρ x :: renVL ρ xs
termination_by structural x => x
end
def renK (ρ : Nat → Nat) : Kd → Kd
  | .exact => .exact
  | .row c sz => .row (ρ c) sz
  | .num => .num
  | .map kd => .map kd
  | .open_ a o c ks xs => .open_ (ρ a) (ρ o) (ρ c) ks xs
  | .dead => .dead
def renB (ρ : Nat → Nat) (b : Blk) : Blk := ⟨b.ty, renVL ρ b.cs, renK ρ b.k⟩
def renH (ρ : Nat → Nat) (h : Hp) : Hp := h.map fun x => (ρ x.1, renB ρ x.2)

/-- Cells of blocks that are turned. -/
abbrev Ups := List (Nat × List (Nat × Pt))

/-- What comes out: of a leaf the way out, slots, blocks turned, rows given up; fresh rows have keys from top on. -/
inductive Po where
  | leaf (e : Ex) (slots : List (Nat × Pt)) (bl : Ups) (dead : List Nat)
  | ite (b : Bool) (x y : Po)

mutual
/-- A pattern whose holes are filled, as what must be equal. -/
def inst (σ : Dt) (α : At') : Pt → Pt
  | .i k n => .gi k (σ.I n)
  | .b n => .gb (σ.B n)
  | .s n => .gs (σ.S n)
  | .c x => .c x
  | .gi k x => .gi k x
  | .gb x => .gb x
  | .gs x => .gs x
  | .p j o => .p j o
  | .r j _ _ => .k j (σ.R j).length
  | .gr j _ _ xs => .k j xs.length
  | .k j n => .k j n
  | .x j _ ks => .gx (α.nn j) (α.ad j) (σ.R j).length (α.cap j) ks (σ.R j)
  | .gx nn ad n cap ks xs => .gx nn ad n cap ks xs
  | .f g xs ys => .f g (instL σ α xs) (instL σ α ys)
  | .a xs => .a (instL σ α xs)
  | .t xs => .t (instL σ α xs)
termination_by structural x => x
def instL (σ : Dt) (α : At') : List Pt → List Pt
  | [] => []
  | x :: xs => inst σ α x :: instL σ α xs
termination_by structural x => x
end

mutual
/-- Does a pattern name nothing but numbers, texts, truths and blocks? -/
def plain : Pt → Bool
  | .c _ => true
  | .gi _ _ => true
  | .gb _ => true
  | .gs _ => true
  | .p _ _ => true
  | .gr _ _ _ _ => true
  | .k _ _ => true
  | .f _ xs ys => plainL xs && plainL ys
  | .a xs => plainL xs
  | .t xs => plainL xs
  | .i _ _ => false
  | .b _ => false
  | .s _ => false
  | .r _ _ _ => false
  | .x _ _ _ => false
  | .gx _ _ _ _ _ _ => false
termination_by structural x => x
def plainL : List Pt → Bool
  | [] => true
  | x :: xs => plain x && plainL xs
termination_by structural x => x
end

/-- A contract: what must fit; keys are below top; what is asked; what comes out. -/
structure Con where
  ps : List Pt
  bl : Bls
  top : Nat
  pre : Dt → Prop
  post : Dt → Po

def Con.rows (c : Con) (σ : Dt) : List (Nat × TypeId × List PK × List (List Value)) := rwsL σ (allP c.ps c.bl)
/-- The rows that stay as they are. -/
def Con.kept (c : Con) (σ : Dt) (dead : List Nat) : List (Nat × TypeId × List PK × List (List Value)) := (c.rows σ).filter fun r => !(dead.any (Nat.beq r.1))
def Con.gone (c : Con) (σ : Dt) (dead : List Nat) : List (Nat × TypeId × List PK × List (List Value)) := (c.rows σ).filter fun r => dead.any (Nat.beq r.1)

def upd {α : Type} (l : List α) : List (Nat × α) → List α
  | [] => l
  | (i, x) :: us => upd (l.set i x) us
def upsOf (bl : Ups) (j : Nat) : List (Nat × Pt) :=
  match find bl j with
  | some u => u
  | none => []
/-- The blocks behind: turned, or as they were. -/
def Con.blOut (c : Con) (σ : Dt) (α : At') (bl : Ups) : Bls := c.bl.map fun x => (x.1, x.2.1, upd (instL σ α x.2.2) (upsOf bl x.1))
def upsP (bl : Ups) : List Pt := bl.flatMap fun x => x.2.map (·.2)
/-- The rows that are new. -/
def Con.fresh (c : Con) (σ : Dt) (α : At') (slots : List (Nat × Pt)) (bl : Ups) : List (Nat × TypeId × List PK × List (List Value)) := rwsL σ (allP (slots.map (·.2)) (c.blOut σ α bl))
def Con.psOut (c : Con) (σ : Dt) (slots : List (Nat × Pt)) (dead : List Nat) : List Pt := slots.map (·.2) ++ (c.kept σ dead).map fun r => .gr r.1 r.2.1 r.2.2.1 r.2.2.2
def Con.vsOut (c : Con) (σ : Dt) (dead : List Nat) (vs : List V) : List V := vs ++ (c.kept σ dead).map fun r => .r r.1 (r.1 + 1) (r.1 + 2) (r.1 + 3) r.2.2.2.length
def four (j : Nat) : List Nat := [j, j + 1, j + 2, j + 3]
/-- Keys that go on to name what they named. -/
def Con.stay (c : Con) (σ : Dt) (dead : List Nat) : List Nat := c.bl.map (·.1) ++ (c.kept σ dead).flatMap fun r => four r.1

/-- Memory that is given up. -/
def goneH (l : List (Nat × TypeId × List PK × List (List Value))) : Hp := l.flatMap fun r => [(r.1, ⟨r.2.1, [], .dead⟩), (r.1 + 1, ⟨r.2.1, [], .num⟩), (r.1 + 2, ⟨r.2.1, [], .num⟩), (r.1 + 3, ⟨r.2.1, [], .num⟩)]

/-- Is a leaf well made? -/
def Con.leafOk (c : Con) (σ : Dt) (α : At') (slots : List (Nat × Pt)) (bl : Ups) (dead : List Nat) : Bool :=
  viewWf σ α (c.psOut σ slots dead) (c.blOut σ α bl) && plainL (slots.map (·.2)) && plainL (upsP bl) &&
    (refsL (fillL σ α (slots.map (·.2) ++ upsP bl))).all (fun j => (keysOf (viewH σ α (c.psOut σ slots dead) (c.blOut σ α bl))).any (Nat.beq j)) &&
    (c.fresh σ α slots bl).all (fun r => Nat.ble c.top r.1) && (keysOf (viewH σ α c.ps c.bl)).all (fun j => Nat.blt j c.top)

def exEq : Ex → Ex → Bool
  | .normal, .normal => true
  | .ret, .ret => true
  | .exit i, .exit j => Nat.beq i j
  | _, _ => false

/-- What came, held against what should come. -/
def Con.fits (c : Con) (rom : RomP) (σ : Dt) (α : At') (vs : List (Nat × Pt) → List V) (e : Ex) (s : St) : Po → Prop
  | .leaf e' slots bl dead => e' = e ∧ (Nat.beq (vs slots).length slots.length && c.leafOk σ α slots bl dead) = true ∧
    match bif exEq e' e then view rom (c.psOut σ slots dead) (c.blOut σ α bl) (c.vsOut σ dead (vs slots)) s.h s.nx ((c.stay σ dead).map fun j => (j, j)) else none with
    | some m => m.p
    | none => False
  | .ite b x y => (b = true → c.fits rom σ α vs e s x) ∧ (b = false → c.fits rom σ α vs e s y)

/-- Keys of the view as keys of the memory; fresh ones behind all. -/
def Con.ren (c : Con) (m : M) (j : Nat) : Nat := bif Nat.blt j c.top then m.ρf j else m.nx + (j - c.top)

/-- A bound of the fresh keys. -/
def bound4 (top : Nat) (l : List (Nat × TypeId × List PK × List (List Value))) : Nat := l.foldl (fun n r => Nat.max n (r.1 + 4)) top

def noα : At' := ⟨fun _ => false, fun _ => default, fun _ => 0⟩

/-- The way out, in the memory at hand: slots and memory. -/
def Con.out (c : Con) (m : M) (slots : List (Nat × Pt)) (bl : Ups) (dead : List Nat) : List (Nat × V) × Hp × Nat :=
  let σ := m.dt
  let ρ := c.ren m
  (slots.map fun x => (x.1, renV ρ (fill σ noα x.2)),
   ((c.bl.filter fun x => bl.any fun y => Nat.beq y.1 x.1).filterMap fun x => (lookB m.h (m.ρf x.1)).map fun b => (m.ρf x.1, (⟨x.2.1, upd b.cs ((upsOf bl x.1).map fun y => (y.1, renV ρ (fill σ noα y.2))), .exact⟩ : Blk))) ++
    renH ρ (((c.fresh σ noα slots bl).flatMap fun x => laidO x.1 x.2.1 x.2.2.1 x.2.2.2) ++ goneH (c.gone σ dead)),
   m.nx + (bound4 c.top (c.fresh σ noα slots bl) - c.top))

/-- The rows that a view's callee may only read. -/
def romOf (σ : Dt) (α : At') (ps : List Pt) (bl : Bls) : RomP := fun nn ad ks xs => ∃ x ∈ lentL σ (allP ps bl), nn = α.nn x.1 ∧ ad = α.ad x.1 ∧ ks = x.2.1 ∧ xs = x.2.2

/-- Are the keys of a view below top? -/
def Con.wf (c : Con) (σ : Dt) : Bool := viewWf σ noα c.ps c.bl && (keysOf (viewH σ noα c.ps c.bl)).all fun j => Nat.blt j c.top

def one0 : List (Nat × V) → List (Nat × V)
  | [(_, v)] => [(0, v)]
  | _ => []

/-- The ways out of a call. -/
def Con.instT (c : Con) (m : M) : Po → T
  | .leaf e slots bl dead => .leaf e ⟨one0 (c.out m slots bl dead).1, 1, (c.out m slots bl dead).2.1 ++ m.h, (c.out m slots bl dead).2.2⟩
  | .ite b x y => .ite b (c.instT m x) (c.instT m y)

/-- A contract at a call. -/
def Con.call (c : Con) (rom : RomP) : List V → Hp → Nat → Option T := fun as h nx =>
  (view rom c.ps c.bl as h nx []).bind fun m => bif c.wf m.dt then some (.req (m.p ∧ c.pre m.dt) (c.instT m (c.post m.dt))) else none

/-- A body, read from a view. -/
def run1 (P : Program) (φ : Specs) (n : Nat) (fn : Func) (as : List V) (h : Hp) (nx : Nat) : T :=
  match fn.body with
  | some c => X P φ n (.fold c (needOf fn)) ⟨enterEnv as 0, Nat.max as.length fn.ntmps, h, nx⟩
  | none => .fail

/-- What is to be shown of a contract of a function. -/
def Con.goal (c : Con) (P : Program) (φ : RomP → Specs) (n : Nat) (fn : Func) (σ : Dt) (α : At') : Prop :=
  (run1 P (φ (romOf σ α c.ps c.bl)) n fn (fillL σ α c.ps) (viewH σ α c.ps c.bl) c.top).sat fun e s =>
    (match e with | .exit _ => False | _ => True) ∧ match res P fn s with
      | some z => c.fits (romOf σ α c.ps c.bl) σ α (fun _ => [z]) .ret s (c.post σ)
      | none => False

/-- A contract of a loop: the slots that its patterns tell, how many slots there are, those that are written and not told, what falls with each round; rows and cells that turn with a round. -/
structure LCon where
  c : Con
  sl : List Nat
  nt : Nat
  hv : List Nat
  meas : Dt → Nat
  mvr : List Nat := []
  mvc : List (Nat × List Nat) := []

/-- What does not turn. -/
def keepP : Nat → List Pt → List Nat → List Pt
  | _, [], _ => []
  | i, p :: ps, is => bif is.any (Nat.beq i) then keepP (i + 1) ps is else p :: keepP (i + 1) ps is
def movesOf (mvc : List (Nat × List Nat)) (j : Nat) : List Nat :=
  match find mvc j with
  | some l => l
  | none => []
def LCon.rows (l : LCon) (σ : Dt) : List (Nat × TypeId × List PK × List (List Value)) := (l.c.rows σ).filter fun r => !(l.mvr.any (Nat.beq r.1))
def LCon.still (l : LCon) (σ : Dt) (α : At') : List (List Pt) × List (Nat × TypeId × List PK × List (List Value)) :=
  (l.c.bl.map fun x => keepP 0 (instL σ α x.2.2) (movesOf l.mvc x.1), l.rows σ)
abbrev asSt (x : List (List Pt) × List (Nat × TypeId × List PK × List (List Value))) : List (List Pt) × List (Nat × TypeId × List PK × List (List Value)) := x
/-- Keys that name the same in each round. -/
def LCon.fix (l : LCon) (σ : Dt) : List Nat := l.c.bl.map (·.1) ++ (l.rows σ).flatMap fun r => four r.1

/-- A way out tells all that turns. -/
def LCon.covers (l : LCon) : Po → Bool
  | .leaf _ slots bl dead => l.mvr.all (fun j => dead.any (Nat.beq j)) && l.c.bl.all (fun x => (movesOf l.mvc x.1).all fun i => (upsOf bl x.1).any fun u => Nat.beq i u.1) &&
      l.sl.all (fun t => l.hv.any (Nat.beq t) || slots.any fun x => Nat.beq t x.1) && slots.all (fun x => Nat.blt x.1 l.nt)
  | .ite _ x y => l.covers x && l.covers y

def zipS : List Nat → List V → List (Nat × V)
  | t :: ts, v :: vs => (t, v) :: zipS ts vs
  | _, _ => []
def restS (rest : Nat → Value) (hv : List Nat) : Nat → List (Nat × V)
  | 0 => []
  | n + 1 => (n, bif hv.any (Nat.beq n) then .u else .v (rest n)) :: restS rest hv n

/-- The state at the head of a loop, in the view's terms. -/
def LCon.st (l : LCon) (σ : Dt) (α : At') (rest : Nat → Value) : St := ⟨zipS l.sl (fillL σ α l.c.ps) ++ restS rest l.hv l.nt, l.nt, viewH σ α l.c.ps l.c.bl, l.c.top⟩

/-- Where what is lent lies, if it was lent from without. -/
def adw (m : M) : At' where
  nn := fun j => match find m.L j with
    | some (.w nn _ _ _ _ _) => nn
    | _ => false
  ad := fun j => match find m.L j with
    | some (.w _ ad _ _ _ _) => ad
    | _ => default
  cap := fun j => match find m.L j with
    | some (.w _ _ _ cap _ _) => cap
    | _ => 0
def isW : V → Bool
  | .w _ _ _ _ _ _ => true
  | _ => false

/-- May a round have turned those slots alone? -/
def LCon.wrote (l : LCon) (s0 s : St) : Bool := (s.env.take (s.env.length - s0.env.length)).all fun x => l.hv.any (Nat.beq x.1) || l.sl.any (Nat.beq x.1)
def LCon.stays (l : LCon) (σ : Dt) (m : M) : Bool := (l.fix σ).all fun j => match find m.ρ j with | some i => Nat.beq i j | none => false

/-- What is to be shown of a contract of a loop: of one round. -/
def LCon.goal (l : LCon) (P : Program) (φ : RomP → Specs) (n : Nat) (b : Code) (σ : Dt) (α : At') (rest : Nat → Value) : Prop :=
  (l.covers (l.c.post σ) && l.sl.all (fun t => Nat.blt t l.nt) && Nat.beq l.sl.length l.c.ps.length) = true ∧
  (X P (φ (romOf σ α l.c.ps l.c.bl)) n (.code b) (l.st σ α rest)).sat fun e s => l.wrote (l.st σ α rest) s = true ∧ match e with
    | .normal => match view (romOf σ α l.c.ps l.c.bl) l.c.ps l.c.bl (l.sl.map (look s.env)) s.h s.nx [] with
      | some m => (l.stays σ m && m.L.all (fun x => isW x.2) && l.c.wf m.dt) = true ∧ m.p ∧ l.c.pre m.dt ∧ l.meas m.dt < l.meas σ ∧ l.c.post m.dt = l.c.post σ ∧ l.still m.dt (adw m) = l.still σ α
      | none => False
    | e => l.c.fits (romOf σ α l.c.ps l.c.bl) σ α (fun slots => slots.map fun x => look s.env x.1) e s (l.c.post σ)

def LCon.instT (l : LCon) (m : M) (s : St) : Po → T
  | .leaf e slots bl dead => .leaf e ⟨(l.c.out m slots bl dead).1 ++ (l.hv.map fun t => (t, .u)) ++ s.env, s.n, (l.c.out m slots bl dead).2.1 ++ m.h, (l.c.out m slots bl dead).2.2⟩
  | .ite b x y => .ite b (l.instT m s x) (l.instT m s y)

/-- A contract at a loop. -/
def LCon.loop (l : LCon) (rom : RomP) : St → Option T := fun s =>
  bif Nat.beq s.n l.nt then
    (view rom l.c.ps l.c.bl (l.sl.map (look s.env)) s.h s.nx []).bind fun m => bif l.c.wf m.dt then some (.req (m.p ∧ l.c.pre m.dt) (l.instT m s (l.c.post m.dt))) else none
  else none

end Go.Proofs.YtfjldllegmfooaaDoor.X
end
