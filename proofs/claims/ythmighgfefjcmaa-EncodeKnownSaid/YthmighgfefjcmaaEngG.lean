/- What the reader finds is what the machine does: joined ways, and the theorem. No condition. -/
import Derived.Test.YthmighgfefjcmaaEngI
namespace Go.Proofs.Ythmighgfefjcmaa.X
open Go.RowKit

section
variable {P : Program} {φ : Specs} {F₀ : Nat → Prop} {w0 : World}

theorem mergeE_look {q : Bool} : ∀ (k : Nat) (l l' e : List (Nat × V)), mergeE q k l l' = some e → ∀ t,
    (look e t = mergeB q (look l t) (look l' t)) ∨ (look e t = look (l.drop k) t ∧ look l t = look (l.drop k) t ∧ look l' t = look (l'.drop k) t) := by
  intro k
  induction k with
  | zero => intro l l' e h t; simp only [mergeE, Option.some.injEq] at h; subst h; exact .inr ⟨rfl, rfl, rfl⟩
  | succ k ih =>
    intro l l' e h t
    cases l with
    | nil => simp [mergeE] at h
    | cons b l =>
      cases l' with
      | nil => simp [mergeE] at h
      | cons b' l' =>
        obtain ⟨t1, x⟩ := b
        obtain ⟨t2, y⟩ := b'
        simp only [mergeE] at h
        cases hb : Nat.beq t1 t2 with
        | false => rw [hb] at h; cases h
        | true =>
          have hk := Nat.eq_of_beq_eq_true hb
          subst hk
          rw [hb] at h
          simp only [cond_true, Option.bind_eq_some_iff, Option.some.injEq] at h
          obtain ⟨r, hr, rfl⟩ := h
          simp only [look, List.drop_succ_cons]
          cases Nat.beq t1 t with
          | true => exact .inl rfl
          | false => exact ih l l' r hr t

theorem HR.sub {β : Nat → Nat} {h0 h : Hp} {w : World} (H : HR F₀ w0 β h w) (hs : ∀ j b, lookB h0 j = some b → lookB h j = some b) (hw : ∀ (j : Nat) (b : Blk), lookB h0 j = some b → ∀ i, i ∈ refsL b.cs ∨ i ∈ b.k.refs → has h0 i) : HR F₀ w0 β h0 w :=
  ⟨H.os, H.tape, H.output, H.size, H.keep, fun j b hj => H.blk j b (hs j b hj), fun j b hj => H.own j b (hs j b hj), fun i j b b' hi hj => H.inj i j b b' (hs i b hi) (hs j b' hj), hw⟩

/-- What is known at s' is known at s''. -/
def Imp (F₀ : Nat → Prop) (w0 : World) (s' s'' : St) : Prop := ∀ β a w, HR F₀ w0 β s'.h w → RE β s' a → HR F₀ w0 β s''.h w ∧ RE β s'' a

/-- What the state at a region's head keeps. -/
structure Head (s0 : St) : Prop where
  env : ∀ t j, j ∈ refs (look s0.env t) → has s0.h j
  h : ∀ (j : Nat) (b : Blk), lookB s0.h j = some b → ∀ i, i ∈ refsL b.cs ∨ i ∈ b.k.refs → has s0.h i
  fresh : ∀ j, has s0.h j → j < s0.nx

theorem imp_side {s0 s1 : St} {e : List (Nat × V)} (hw : Head s0) (h1 : Base s0 .normal s1) (hlook : ∀ t, (∃ x : V, (x ≠ .u → ∃ x', val (look s1.env t) = some x' ∧ ∀ β, den β x = x') ∧ look e t = x ∧ refs x = []) ∨ (look e t = look s0.env t ∧ look s1.env t = look s0.env t)) : Imp F₀ w0 s1 ⟨e, s0.n, s0.h, s0.nx⟩ := by
  obtain ⟨_, _, c1, d1, _⟩ := h1
  intro β a w H hr
  refine ⟨H.sub c1 hw.h, hr.defers, by rw [hr.size]; exact d1, fun t ht => ?_, fun t j hj => ?_, hw.fresh⟩
  · dsimp only at ht ⊢
    rcases hlook t with ⟨x, hx, h, _⟩ | ⟨h, h'⟩
    · rw [h] at ht ⊢
      obtain ⟨x', hv, hden⟩ := hx ht
      rw [hden, ← d1]
      obtain ⟨v1, v2⟩ := hr.val t (val_ne hv)
      exact ⟨v1, v2.trans (val_den β _ _ hv)⟩
    · rw [h, ← h'] at ht ⊢
      rw [← d1]
      exact hr.val t ht
  · dsimp only at hj ⊢
    rcases hlook t with ⟨x, _, h, hx⟩ | ⟨h, _⟩
    · rw [h, hx] at hj; cases hj
    · rw [h] at hj; exact hw.env t j hj

theorem imp_merge {s0 s1 s2 : St} {q : Bool} {e : List (Nat × V)} (hw : Head s0)
    (h1 : Base s0 .normal s1) (h2 : Base s0 .normal s2) (hl : s1.env.length = s2.env.length) (he : mergeE q (s1.env.length - s0.env.length) s1.env s2.env = some e) :
    (q = true → Imp F₀ w0 s1 ⟨e, s0.n, s0.h, s0.nx⟩) ∧ (q = false → Imp F₀ w0 s2 ⟨e, s0.n, s0.h, s0.nx⟩) := by
  have hh1 := h1
  have hh2 := h2
  obtain ⟨_, ⟨n1, a1⟩, _⟩ := h1
  obtain ⟨_, ⟨n2, a2⟩, _⟩ := h2
  have hd1 : s1.env.drop (s1.env.length - s0.env.length) = s0.env := by
    rw [a1]; simp
  have hd2 : s2.env.drop (s1.env.length - s0.env.length) = s0.env := by
    rw [hl, a2]; simp
  have hlook := mergeE_look _ _ _ _ he
  rw [hd1, hd2] at hlook
  constructor
  · rintro rfl
    refine imp_side hw hh1 fun t => ?_
    rcases hlook t with h | ⟨h, h', _⟩
    · refine .inl ⟨_, fun hx => ?_, h, mergeB_refs _ _ _⟩
      obtain ⟨x', y', hx, hy, hden⟩ := mergeB_den hx
      exact ⟨x', hx, hden⟩
    · exact .inr ⟨h, h'⟩
  · rintro rfl
    refine imp_side hw hh2 fun t => ?_
    rcases hlook t with h | ⟨h, _, h'⟩
    · refine .inl ⟨_, fun hx => ?_, h, mergeB_refs _ _ _⟩
      obtain ⟨x', y', hx, hy, hden⟩ := mergeB_den hx
      exact ⟨y', hy, hden⟩
    · exact .inr ⟨h, h'⟩

theorem mergeE_suffix {q : Bool} : ∀ (k : Nat) (l l' e : List (Nat × V)), mergeE q k l l' = some e → ∃ ne, e = ne ++ l.drop k := by
  intro k
  induction k with
  | zero => intro l l' e h; simp only [mergeE, Option.some.injEq] at h; subst h; exact ⟨[], rfl⟩
  | succ k ih =>
    intro l l' e h
    cases l with
    | nil => simp [mergeE] at h
    | cons b l =>
      cases l' with
      | nil => simp [mergeE] at h
      | cons b' l' =>
        simp only [mergeE] at h
        replace h := (bif_some' h).2
        simp only [Option.bind_eq_some_iff, Option.some.injEq] at h
        obtain ⟨r, hr, rfl⟩ := h
        obtain ⟨ne, rfl⟩ := ih l l' r hr
        exact ⟨_ :: ne, rfl⟩

def holdsO : Option Prop → Prop
  | none => True
  | some p => p

theorem strip_ok : ∀ (t : T) (p : Option Prop) (t' : T), t.strip = (p, t') → (∀ K, t.sat K ↔ holdsO p ∧ t'.sat K) ∧ ∀ A, t.all A ↔ t'.all A := by
  intro t
  induction t with
  | req q x ih =>
    intro p t' h
    simp only [T.strip] at h
    cases hs : x.strip with
    | mk p1 t1 =>
      obtain ⟨i1, i2⟩ := ih p1 t1 hs
      rw [hs] at h
      cases p1 with
      | none =>
        simp only [Prod.mk.injEq] at h
        obtain ⟨rfl, rfl⟩ := h
        exact ⟨fun K => by simp only [T.sat, i1, holdsO, true_and], fun A => by simp only [T.all, i2]⟩
      | some q1 =>
        simp only [Prod.mk.injEq] at h
        obtain ⟨rfl, rfl⟩ := h
        exact ⟨fun K => by simp only [T.sat, i1, holdsO, and_assoc], fun A => by simp only [T.all, i2]⟩
  | leaf e s => intro p t' h; simp only [T.strip, Prod.mk.injEq] at h; obtain ⟨rfl, rfl⟩ := h; exact ⟨fun K => by simp [holdsO], fun A => Iff.rfl⟩
  | ite b x y _ _ => intro p t' h; simp only [T.strip, Prod.mk.injEq] at h; obtain ⟨rfl, rfl⟩ := h; exact ⟨fun K => by simp [holdsO], fun A => Iff.rfl⟩
  | fail => intro p t' h; simp only [T.strip, Prod.mk.injEq] at h; obtain ⟨rfl, rfl⟩ := h; exact ⟨fun K => by simp [holdsO], fun A => Iff.rfl⟩

theorem both_sat {b : Bool} {p q : Option Prop} {t : T} {K : Ex → St → Prop} (h : (both b p q t).sat K) : (b = true → holdsO p) ∧ (b = false → holdsO q) ∧ t.sat K := by
  cases p <;> cases q <;> simp only [both, T.sat] at h
  · exact ⟨fun _ => trivial, fun _ => trivial, h⟩
  · exact ⟨fun _ => trivial, h.1, h.2⟩
  · exact ⟨h.1, fun _ => trivial, h.2⟩
  · exact ⟨h.1.1, h.1.2, h.2⟩
theorem both_all {b : Bool} {p q : Option Prop} {t : T} {A : Ex → St → Prop} (h : t.all A) : (both b p q t).all A := by
  cases p <;> cases q <;> exact h

theorem merge_ok {s0 : St} (hw : Head s0) : ∀ t : T, t.all (Base s0) →
    (t.merge s0).all (Base s0) ∧ ∀ K, (t.merge s0).sat K → t.sat fun e s' => ∃ s'', K e s'' ∧ Base s0 e s'' ∧ Imp F₀ w0 s' s'' := by
  intro t
  induction t with
  | leaf e s => intro h; exact ⟨h, fun K hK => ⟨s, hK, h, fun β a w H hr => ⟨H, hr⟩⟩⟩
  | fail => intro h; exact ⟨trivial, fun K hK => hK⟩
  | req p x ih =>
    intro h
    obtain ⟨a1, k1⟩ := ih h
    exact ⟨a1, fun K hK => ⟨hK.1, k1 K hK.2⟩⟩
  | ite b x y ih1 ih2 =>
    intro h
    obtain ⟨a1, k1⟩ := ih1 h.1
    obtain ⟨a2, k2⟩ := ih2 h.2
    have plain : ∀ t', t' = T.ite b (x.merge s0) (y.merge s0) → t'.all (Base s0) ∧ ∀ K, t'.sat K → (T.ite b x y).sat fun e s' => ∃ s'', K e s'' ∧ Base s0 e s'' ∧ Imp F₀ w0 s' s'' := by
      rintro t' rfl
      exact ⟨⟨a1, a2⟩, fun K hK => ⟨fun hb => k1 K (hK.1 hb), fun hb => k2 K (hK.2 hb)⟩⟩
    simp only [T.merge]
    split
    · rename_i p s1 q s2 hx hy
      cases hl : Nat.beq s1.env.length s2.env.length with
      | false => simp only [cond_false]; exact plain _ rfl
      | true =>
        simp only [cond_true]
        split
        · rename_i e he
          obtain ⟨x1, x2⟩ := strip_ok _ _ _ hx
          obtain ⟨y1, y2⟩ := strip_ok _ _ _ hy
          have b1 : Base s0 .normal s1 := (x2 _).1 a1
          have b2 : Base s0 .normal s2 := (y2 _).1 a2
          obtain ⟨i1, i2⟩ := imp_merge (F₀ := F₀) (w0 := w0) hw b1 b2 (Nat.eq_of_beq_eq_true hl) he
          have hbase : Base s0 .normal ⟨e, s0.n, s0.h, s0.nx⟩ := by
            obtain ⟨ne, hne⟩ := mergeE_suffix _ _ _ _ he
            obtain ⟨_, ⟨n1, q1⟩, _⟩ := b1
            refine ⟨rfl, ⟨ne, ?_⟩, fun _ _ h => h, rfl, Nat.le_refl _⟩
            rw [hne]
            congr 1
            rw [q1]; simp
          refine ⟨both_all hbase, fun K hK => ?_⟩
          obtain ⟨hp, hq, hK⟩ := both_sat hK
          refine ⟨fun hb => ?_, fun hb => ?_⟩
          · refine T.sat_mono (k1 (fun e s' => e = .normal ∧ s' = s1) ((x1 _).2 ⟨hp hb, rfl, rfl⟩)) ?_
            rintro e' s' ⟨s'', ⟨rfl, rfl⟩, _, himp⟩
            exact ⟨_, hK, hbase, fun β a w H hr => let ⟨H1, r1⟩ := himp β a w H hr; i1 hb β a w H1 r1⟩
          · refine T.sat_mono (k2 (fun e s' => e = .normal ∧ s' = s2) ((y1 _).2 ⟨hq hb, rfl, rfl⟩)) ?_
            rintro e' s' ⟨s'', ⟨rfl, rfl⟩, _, himp⟩
            exact ⟨_, hK, hbase, fun β a w H hr => let ⟨H1, r1⟩ := himp β a w H hr; i2 hb β a w H1 r1⟩
        · exact plain _ rfl
    · exact plain _ rfl

theorem setN_RE {β : Nat → Nat} {s : St} {a : Act} (hr : RE β s a) {m tg : Nat} {x : V} {e : List (Nat × V)} (he : setN m s.env tg x = some e) (hne : look s.env tg ≠ .u) (hd : den β x = den β (look s.env tg)) (hb : refs x = []) :
    RE β ⟨e, s.n, s.h, s.nx⟩ a := by
  have hl := setN_look _ _ he
  refine ⟨hr.defers, hr.size, fun t ht => ?_, fun t j hj => ?_, hr.fresh⟩
  · dsimp only at ht ⊢
    rw [hl] at ht ⊢
    by_cases e1 : t = tg
    · subst e1
      rw [if_pos rfl, hd]
      exact hr.val t hne
    · rw [if_neg e1] at ht ⊢
      exact hr.val t ht
  · dsimp only at hj
    rw [hl] at hj
    by_cases e1 : t = tg
    · rw [if_pos e1, hb] at hj; cases hj
    · rw [if_neg e1] at hj; exact hr.wf t j hj

theorem ops_ok (hφ : Good P φ) {n : Nat} (hs : Sd P F₀ w0 n (X P φ n)) (l : List Oper) (all : Array Oper) (m : Nat) (s : St) (K : Ex → St → Prop) (h : (F P φ (X P φ n) (.ops l all m) s).sat K)
    (β : Nat → Nat) (a : Act) (w : World) (Q : Exit → Act → World → Prop) (H : HR F₀ w0 β s.h w) (hr : RE β s a)
    (hQ : ∀ e s' β' a' w', K e s' → At F₀ w0 β s s' β' a' w' → Q (ex e) a' w') : wpList P all Q l a w := by
  cases l with
  | nil => exact hQ .normal s β a w h ⟨H, hr, fun _ _ => rfl, fun _ h => h, rfl⟩
  | cons o rest =>
    have exec : (oper P φ (X P φ n) o s fun s' => X P φ n (.ops rest all m) s').sat K → o.wp P a w (wpList P all Q rest) Q := fun hop =>
      oper_ok hφ hs hop H hr _ Q fun s' β' a' w' hk hat => hs (.ops rest all m) s' K hk β' a' w' Q hat.hr hat.re fun e s'' β'' a'' w'' hK hat' => hQ e s'' β'' a'' w'' hK (hat.trans hat')
    have skip : ∀ (_ : dstOk s o.dst = true), (X P φ n (.ops rest all m) (X.put s o.dst (.c undef))).sat K → wpList P all Q rest (a.put o.dst undef) w := fun hd hk => by
      have hat : At F₀ w0 β s (X.put s o.dst (.c undef)) β (a.put o.dst undef) w := by
        refine ⟨?_, hr.lay hd (fun _ => rfl) (by simp [refs]), fun _ _ => rfl, ?_, ?_⟩
        · cases o.dst <;> exact H
        · cases o.dst <;> exact fun _ h => h
        · cases o.dst <;> rfl
      exact hs (.ops rest all m) _ K hk β _ w Q hat.hr hat.re fun e s'' β'' a'' w'' hK hat' => hQ e s'' β'' a'' w'' hK (hat.trans hat')
    unfold F at h
    dsimp only at h
    split at h
    · rename_i hg
      unfold wpList
      rw [if_pos (by simp [Region.wanted, hg])]
      exact .inl (exec h)
    · rename_i j want hg
      split at h
      · exact h.elim
      · rename_i tg htg
        split at h
        · rename_i q hq
          obtain ⟨v1, v2⟩ := hr.val tg (by rw [hq]; simp)
          rw [hq] at v2
          have hy := yielded_of htg (by rw [hr.size]; exact v1) v2
          simp only [den, yes] at hy
          have hwant : Region.wanted o (yielded all a.tmps) = (q == want) := by
            simp only [Region.wanted, hg, hy]
            cases q <;> cases want <;> rfl
          split at h
          · rename_i he
            unfold wpList
            rw [hwant, he, if_pos rfl]
            exact .inl (exec h)
          · rename_i he
            unfold wpList
            rw [hwant, he, if_neg (by simp)]
            cases hd : dstOk s o.dst with
            | false => rw [hd] at h; exact h.elim
            | true => rw [hd] at h; exact skip hd h
        · rename_i xs hq
          obtain ⟨v1, v2⟩ := hr.val tg (by rw [hq]; simp)
          rw [hq] at v2
          have hy := yielded_of htg (by rw [hr.size]; exact v1) v2
          simp only [den, yes] at hy
          have hwant : Region.wanted o (yielded all a.tmps) = false := by
            simp only [Region.wanted, hg, hy]
            cases want <;> rfl
          unfold wpList
          rw [hwant, if_neg (by simp)]
          cases hd : dstOk s o.dst with
          | false => rw [hd] at h; exact h.elim
          | true => rw [hd] at h; exact skip hd h
        · rename_i q hq
          split at h
          · rename_i e1 e2 he1 he2
            cases q with
            | true =>
              have hre := setN_RE hr he1 (by rw [hq]; simp) (by rw [hq]; rfl) rfl
              exact hs (.ops (o :: rest) all m) _ K (h.1 rfl) β a w Q H hre fun e s' β' a' w' hK hat => hQ e s' β' a' w' hK ⟨hat.hr, hat.re, hat.ext, hat.mono, hat.n⟩
            | false =>
              have hre := setN_RE hr he2 (by rw [hq]; simp) (by rw [hq]; rfl) rfl
              exact hs (.ops (o :: rest) all m) _ K (h.2 rfl) β a w Q H hre fun e s' β' a' w' hK hat => hQ e s' β' a' w' hK ⟨hat.hr, hat.re, hat.ext, hat.mono, hat.n⟩
          · exact h.elim
        · exact h.elim

theorem hmonoApp : ∀ (tr : List Rec) (i : Nat) (s : St) (j : Nat), has s.h j → has (app (fun _ => true) i tr s).h j
  | [], _, _, _, h => h
  | r :: tr, i, s, j, h => by
    simp only [app, cond_true]
    refine hmonoApp tr (i + 1) _ j ?_
    rw [h_after]
    have : ∀ d : Hp, has (d ++ s.h) j := by
      intro d
      induction d with
      | nil => exact h
      | cons b d ih => obtain ⟨k, b⟩ := b; exact (has_cons _ _ _ _).2 (.inr ih)
    exact this r.d

theorem code_ok (hφ : Good P φ) {n : Nat} (hS : ∀ F w0, Sd P F w0 n (X P φ n)) (c : Code) (s : St) (K : Ex → St → Prop) (h : (F P φ (X P φ n) (.code c) s).sat K)
    (β : Nat → Nat) (a : Act) (w : World) (Q : Exit → Act → World → Prop) (H : HR F₀ w0 β s.h w) (hr : RE β s a)
    (hQ : ∀ e s' β' a' w', K e s' → At F₀ w0 β s s' β' a' w' → Q (ex e) a' w') : c.wp P Q a w := by
  have hs : Sd P F₀ w0 n (X P φ n) := hS F₀ w0
  have here : ∀ e, K e s → Q (ex e) a w := fun e he => hQ e s β a w he ⟨H, hr, fun _ _ => rfl, fun _ h => h, rfl⟩
  cases c with
  | skip => exact wp_skip (here .normal h)
  | label l => exact wp_label (here .normal h)
  | exit i => exact wp_exit (here (.exit i) h)
  | ret => exact wp_ret (here .ret h)
  | goto => exact h.elim
  | refuse => exact h.elim
  | rangeFunc => exact h.elim
  | scope b =>
    refine wp_scope_straight (hs (.code b) s K h β a w _ H hr fun e s' β' a' w' hK hat => ?_)
    have := hQ e s' β' a' w' hK hat
    cases e <;> exact this
  | seq x y =>
    simp only [F] at h
    rw [T.sat_bind] at h
    refine wp_seq (hs (.code x) s _ h β a w _ H hr fun e s' β' a' w' hK hat => ?_)
    cases e with
    | normal => exact hs (.code y) s' K hK β' a' w' Q hat.hr hat.re fun e s'' β'' a'' w'' hK' hat' => hQ e s'' β'' a'' w'' hK' (hat.trans hat')
    | ret => exact hQ .ret s' β' a' w' hK hat
    | exit i => exact hQ (.exit i) s' β' a' w' hK hat
  | cond c x y =>
    simp only [F] at h
    split at h
    · rename_i q hq
      have hc : a.eval c = .bool q := (ev_ok hr c (by rw [hq]; simp)).trans (by rw [hq]; rfl)
      cases q with
      | true => exact wp_cond_true hc (hs (.code x) s K h β a w Q H hr hQ)
      | false => exact wp_cond_false hc (hs (.code y) s K h β a w Q H hr hQ)
    · rename_i q hq
      have hc : a.eval c = .bool q := (ev_ok hr c (by rw [hq]; simp)).trans (by rw [hq]; rfl)
      exact wp_cond_split hc (fun hb => hs (.code x) s K (h.1 hb) β a w Q H hr hQ) (fun hb => hs (.code y) s K (h.2 hb) β a w Q H hr hQ)
    · exact h.elim
  | block id b =>
    simp only [F] at h
    rw [T.sat_bind] at h
    refine wp_block (hs (.code b) s _ h β a w _ H hr fun e s' β' a' w' hK hat => ?_)
    cases e with
    | normal => exact hQ .normal s' β' a' w' hK hat
    | ret => exact hQ .ret s' β' a' w' hK hat
    | exit i =>
      dsimp only at hK
      show Exit.inBlock id Q (.exit i) a' w'
      unfold Exit.inBlock
      by_cases e : i = id
      · subst e
        rw [show Nat.beq i i = true by simp] at hK
        simp only [if_true]
        exact hQ .normal s' β' a' w' hK hat
      · rw [beq_ne e] at hK
        simp only [if_neg e]
        exact hQ (.exit i) s' β' a' w' hK hat
  | loop b =>
    exact wp_loop_rounds n (hs (.rounds b) s K h β a w Q H hr hQ)
  | region id ops draw =>
    simp only [F] at h
    cases draw with
    | true =>
      simp only [cond_true] at h
      unfold drawn at h
      cases hmx : P.follows .mixedOrders with
      | false => rw [hmx] at h; exact h.elim
      | true =>
      rw [hmx] at h
      simp only [cond_true] at h
      split at h
      · exact h.elim
      · rename_i ms hms
        obtain ⟨tr, k', h, hlen, hkk, hop⟩ := trace_sat _ _ _ _ h
        cases hok : (okAll ops tr ms && Nat.ble s.nx k') with
        | false => rw [hok] at h; exact h.elim
        | true =>
        rw [hok] at h
        simp only [cond_true] at h
        rw [Bool.and_eq_true] at hok
        have pl := plan_of (P := P) (φ := φ) (ih := X P φ n) (k := s.nx) (k' := k') hlen hop hms hok.1 h
        have hK := (loads_sat _ h).2
        have pl' : Plan P φ (X P φ n) ops s.nx ({ s with nx := k' } : St).nx { s with nx := k' } tr := by
          refine ⟨pl.len, fun i o ho => ?_, pl.edge, pl.dst, pl.data, pl.heap, pl.keys, pl.new, fun i ri t b o D hi hp hDi hD => ?_⟩
          · obtain ⟨r, h1, h2, h3⟩ := pl.op i o ho
            exact ⟨r, h1, by rw [app_nx]; exact recOk_nx h2, h3⟩
          · rw [app_nx]; exact pl.load i ri t b o D hi hp hDi hD
        have hf : ∀ (D : Nat → Bool) (i : Nat) (t : St), (∀ j, D j = false) → app D i tr t = t := by
          have : ∀ (D : Nat → Bool) (tr : List Rec) (i : Nat) (t : St), (∀ j, D j = false) → app D i tr t = t := by
            intro D tr
            induction tr with
            | nil => intro i t _; rfl
            | cons _ _ ih => intro i t hD; simp only [app, hD, cond_false]; exact ih _ _ hD
          exact fun D i t hD => this D tr i t hD
        have hD0 : ∀ j, (Array.replicate ops.size false).getD j false = false := fun j => by
          rw [Array.getD_eq_getD_getElem?, Array.getElem?_replicate]
          split <;> rfl
        have hre0 : RE β { s with nx := k' } a := ⟨hr.defers, hr.size, hr.val, hr.wf, fun j hj => by have := hr.fresh j hj; dsimp only; omega⟩
        refine wp_region_any hmx (drawn_any (F₀ := F₀) (w0 := w0) hφ hS pl' hr.fresh (β₀ := β) Q ?_ ops.size (Array.replicate ops.size false) a _ β (by simp) ?_ ?_ ?_ ?_ (fun _ _ => rfl) ?_)
        · intro β' a' w' H' hr' hext
          exact hQ .normal _ β' a' w' hK ⟨H', hr', hext, fun j hj => hmonoApp tr 0 { s with nx := k' } j hj, (app_n _ tr 0 _).1⟩
        · have := List.countP_le_length (p := fun b => !b) (l := (Array.replicate ops.size false).toList)
          simpa using this
        · intro x o _ hx
          rw [hD0] at hx; cases hx
        · rw [hf _ 0 _ hD0]; exact H.drew
        · rw [hf _ 0 _ hD0]; exact hre0
        · intro j hj; rw [hf _ 0 _ hD0]; exact hj
    | false =>
      simp only [cond_false] at h
      cases hg : (ops.toList.any (fun o => o.guard.isSome) && ops.toList.all (calm φ)) with
      | false =>
        rw [hg] at h
        exact wp_region_list (hs (.ops ops.toList ops s.env.length) s K h β a w Q H hr hQ)
      | true =>
        rw [hg] at h
        simp only [cond_true] at h
        have hcalm : ops.toList.all (calm φ) = true := by simp only [Bool.and_eq_true] at hg; exact hg.2
        have hall := ops_all (P := P) (φ := φ) s hr.fresh ops n ops.toList s ⟨rfl, ⟨[], by simp⟩, fun _ _ h => h, rfl, Nat.le_refl _⟩ hcalm
        obtain ⟨_, hm⟩ := merge_ok (F₀ := F₀) (w0 := w0) ⟨hr.wf, H.wf, hr.fresh⟩ _ hall
        refine wp_region_list (hs (.ops ops.toList ops s.env.length) s _ (hm K h) β a w Q H hr ?_)
        rintro e s' β' a' w' ⟨s'', hK, hbase, himp⟩ hat
        obtain ⟨H'', r''⟩ := himp β' a' w' hat.hr hat.re
        obtain ⟨rfl, _, b2, b3, _⟩ := hbase
        exact hQ .normal s'' β' a' w' hK ⟨H'', r'', hat.ext, fun j ⟨b, hj⟩ => ⟨b, b2 j b hj⟩, b3⟩

theorem X_all (hφ : Good P φ) : ∀ n, ∀ F₀ w0, Sd P F₀ w0 n (X P φ n) := by
  intro n
  induction n with
  | zero => intro F₀ w0 task s K h; exact h.elim
  | succ n hS =>
    intro F₀ w0 task s K h β a w Q H hr hQ
    have hs : Sd P F₀ w0 n (X P φ n) := hS F₀ w0
    cases task with
    | code c => exact code_ok hφ hS c s K h β a w Q H hr hQ
    | ops l all m => exact ops_ok hφ hs l all m s K h β a w Q H hr hQ
    | rounds b =>
      show Code.rounds P b Q (n + 1) a w
      rw [rounds_succ]
      have h' : ((X P φ n (.code b) s).bind fun e s' => match e with | .normal => X P φ n (.rounds b) s' | e => .leaf e s').sat K := h
      rw [T.sat_bind] at h'
      refine hs (.code b) s _ h' β a w _ H hr fun e s' β' a' w' hK hat => ?_
      cases e with
      | normal => exact hs (.rounds b) s' K hK β' a' w' Q hat.hr hat.re fun e s'' β'' a'' w'' hK' hat' => hQ e s'' β'' a'' w'' hK' (hat.trans hat')
      | ret => exact hQ .ret s' β' a' w' hK hat
      | exit i => exact hQ (.exit i) s' β' a' w' hK hat

theorem X_ok (hφ : Good P φ) : ∀ n, Sd P F₀ w0 n (X P φ n) := fun n => X_all hφ n F₀ w0

theorem T.sat_resM {fn : Func} : ∀ (t : T) (z : Value), t.resM P fn = some z → t.sat fun e s => (match e with | .exit _ => False | _ => True) ∧ (X.res P fn s).bind val = some z := by
  intro t
  induction t with
  | leaf e s =>
    intro z h
    cases e with
    | exit i => simp [T.resM] at h
    | normal => exact ⟨trivial, h⟩
    | ret => exact ⟨trivial, h⟩
  | fail => intro z h; simp [T.resM] at h
  | req p x _ => intro z h; simp [T.resM] at h
  | ite b x y ih1 ih2 =>
    intro z h
    unfold T.resM at h
    split at h
    · rename_i h1 h2
      simp only [Option.some.injEq] at h
      subst h
      exact ⟨fun hb => by subst hb; exact ih1 _ h1, fun hb => by subst hb; exact ih2 _ h2⟩
    · rename_i k p k' q h1 h2
      split at h
      · obtain rfl : k = k' := by assumption
        simp only [Option.some.injEq] at h
        subst h
        exact ⟨fun hb => by subst hb; exact ih1 _ h1, fun hb => by subst hb; exact ih2 _ h2⟩
      · cases h
    · rename_i h1 h2
      simp only [Option.some.injEq] at h
      subst h
      exact ⟨fun hb => by subst hb; exact ih1 _ h1, fun hb => by subst hb; exact ih2 _ h2⟩
    · rename_i h1 h2
      simp only [Option.some.injEq] at h
      subst h
      exact ⟨fun hb => by subst hb; exact ih1 _ h1, fun hb => by subst hb; exact ih2 _ h2⟩
    · cases h

theorem HR.start (w : World) (β : Nat → Nat) : HR (fun _ => False) w β [] w :=
  ⟨rfl, rfl, rfl, Nat.le_refl _, fun _ _ _ => rfl, fun j b hj => by simp [lookB] at hj, fun j b hj => by simp [lookB] at hj, fun i j b b' hi => by simp [lookB] at hi, fun j b hb => by simp [lookB] at hb⟩

/-- A function that makes what it hands back: each way's result and memory, by K. -/
theorem calls_of_sat (hφ : Good P φ) {g : FuncId} {fn : Func} (hf : P.funcs[g]? = some fn) (n : Nat) (args : List V) (vs : List Value) (hv : valL args = some vs) (hb : refsL args = []) (w : World) (R : Ending → World → Prop)
    (h : (run P φ n fn args).sat fun e s => (match e with | .exit _ => False | _ => True) ∧ ∃ x, X.res P fn s = some x ∧ ∀ β w', HR (fun _ => False) w β s.h w' → (∀ j, j ∈ refs x → has s.h j) → R (.returned (den β x)) w') :
    Calls P g vs.toArray w R := by
  unfold run at h
  split at h
  · rename_i c hc
    have hd : denL (fun _ => 0) args = vs := valL_den _ _ _ hv
    refine calls_of_wp hf hc ?_
    have hre := enter_ok (β := fun _ => 0) (h := []) args (by rw [hb]; simp) fn.ntmps 0 (fun j hj => by obtain ⟨b, hj⟩ := hj; simp [lookB] at hj)
    rw [hd] at hre
    refine X_ok hφ n (.code c) _ _ h (fun _ => 0) _ w _ (HR.start w _) hre fun e s' β' a' w' hK hat => ?_
    obtain ⟨he, x, hx, hR⟩ := hK
    obtain ⟨hrun, hrefs⟩ := res_ok hat.hr hat.re hx
    have fin : bodyPost P fn R .normal a' w' := ⟨hat.re.defers, _, hrun, hR β' w' hat.hr hrefs⟩
    cases e with
    | normal => exact fin
    | ret => exact fin
    | exit i => exact he.elim
  · exact h.elim

theorem HR.below_ {w w' : World} {β : Nat → Nat} {h : Hp} (H : HR (fun _ => False) w β h w') : Below w.heap.size w w' := ⟨H.os, H.tape, H.output, H.size, fun k hk => H.keep k hk (fun hf => hf)⟩

/-- A function that only computes: what the reader finds is what a call hands back. -/
theorem calls_of_run (hφ : Good P φ) {g : FuncId} {fn : Func} (hf : P.funcs[g]? = some fn) (n : Nat) (args : List V) (vs : List Value) (hv : valL args = some vs) (hb : refsL args = []) (z : Value)
    (h : (run P φ n fn args).resM P fn = some z) (w : World) : Calls P g vs.toArray w fun e w' => e = .returned z ∧ Below w.heap.size w w' := by
  refine calls_of_sat hφ hf n args vs hv hb w _ (T.sat_mono (T.sat_resM _ _ h) ?_)
  rintro e s ⟨he, hz⟩
  obtain ⟨x, hx, hxv⟩ := Option.bind_eq_some_iff.1 hz
  exact ⟨he, x, hx, fun β w' H _ => ⟨by rw [val_den β _ _ hxv], H.below_⟩⟩

theorem good_nil : Good P [] := fun g r h => by simp [spec] at h
theorem good_cons {g : FuncId} {r : List Value → Option Value} (h : ∀ vs z, r vs = some z → ∀ w, Calls P g vs.toArray w fun e w' => e = .returned z ∧ Below w.heap.size w w') (hφ : Good P φ) : Good P ((g, r) :: φ) := by
  intro g' r' h' vs z hz w
  simp only [spec] at h'
  cases hb : Nat.beq g g' with
  | true =>
    rw [hb] at h'
    simp only [cond_true, Option.some.injEq] at h'
    subst h'
    rw [← Nat.eq_of_beq_eq_true hb]
    exact h vs z hz w
  | false => rw [hb] at h'; exact hφ g' r' h' vs z hz w
theorem valL_mapv (l : List Value) : valL (l.map .v) = some l := by
  induction l with
  | nil => rfl
  | cons x l ih => simp [valL, val, ih]
theorem good_self (hφ : Good P φ) (n : Nat) (g : FuncId) : Good P (self P n φ g) := by
  unfold self
  split
  · rename_i fn hf
    exact good_cons (fun vs z hz w => calls_of_run hφ hf n _ vs (valL_mapv vs) (refsL_mapv vs) z hz w) hφ
  · exact hφ
theorem good_selfs (hφ : Good P φ) (n : Nat) (gs : List FuncId) : Good P (selfs P n φ gs) := by
  induction gs generalizing φ with
  | nil => exact hφ
  | cons g gs ih => exact ih (good_self hφ n g)
end
#print axioms calls_of_run
end Go.Proofs.Ythmighgfefjcmaa.X
